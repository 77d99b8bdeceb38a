/-
From other seats: Plan_spec, Ask_spec, Values_spec, Check_spec, CheckAll_spec, AskCheck_spec, ReplyCheck_spec.
-/
import Derived.Test.YthbhbkjkclhkgaaGreatDoorFK1
import Derived.Test.YthbhbkjkclhkgaaGreatDoorST
import Derived.Test.YthbhbkjkclhkgaaGreatDoorSX
import Derived.Test.YthbhbkjkclhkgaaGreatDoorT1
import Derived.Test.YthbhbkjkclhkgaaGreatDoorDK
import Derived.Test.YthbhbkjkclhkgaaGreatDoorA4
import Derived.Test.YthbhbkjkclhkgaaGreatDoorA3
set_option linter.unusedSimpArgs false
set_option linter.unusedVariables false
set_option maxRecDepth 100000
namespace Go.Cx.Pn
open Go Go.Cf Go.Cx Go.Proofs Go.Shelf Go.RowKit Go.Sort
variable {B:QBJ}{As F:List HP}{α:Type}
structure Tag where
 name:ByteArray
 unit:Int
 kind:Int
 addr:Int
 every:Int
 wide:Bool
 sgn:Bool
 swap:Bool
 mul:Int
 div:Int
 add:Int
 dead:Int
 quiet:Int
 ulow:Bool
 uhigh:Bool
 latch:Bool
 low:Int
 high:Int
 hyst:Int
def Tag.cells(t:Tag):Ad:=[.string t.name,.I t.unit,.I t.kind,.I t.addr,.I t.every,.bool t.wide,.bool t.sgn,.bool t.swap,.I t.mul,.I t.div,.I t.add,.I t.dead,.I t.quiet,.bool t.ulow,.bool t.uhigh,.bool t.latch,.I t.low,.I t.high,.I t.hyst]
abbrev Tag.v(t:Tag):Value:=.agg #[.string t.name,.I t.unit,.I t.kind,.I t.addr,.I t.every,.bool t.wide,.bool t.sgn,.bool t.swap,.I t.mul,.I t.div,.I t.add,.I t.dead,.I t.quiet,.bool t.ulow,.bool t.uhigh,.bool t.latch,.I t.low,.I t.high,.I t.hyst]
abbrev QkM:Tag:=⟨ByteArray.empty,0,0,0,0,false,false,false,0,0,0,0,0,false,false,false,0,0,0⟩
def TG:Enc Tag:=⟨Tag.cells,19,fun _=>rfl,fun t v h=>by
 simp only[Tag.cells,W7,List.not_mem_nil,or_false]at h
 rcases h with h|h|h|h|h|h|h|h|h|h|h|h|h|h|h|h|h|h|h <;> (subst h;rfl),Dc,QkM⟩
def QCk(wide swap:Bool)(mul div add:Int):Int:=if mul=0\/mul < -1000000\/mul>1000000\/div<1\/div>1000000\/add < -1099511627776\/add>1099511627776\/(swap=true/\wide=false) then 25 else 0
def bandE(dead quiet:Int):Int:=if dead<0\/dead>1099511627776\/quiet<0\/quiet>1099511627776 then 26 else 0
def Tag.width(t:Tag):Int:=if t.wide=true/\(t.kind=3\/t.kind=4) then 2 else 1
def tagE(t:Tag):Int:=
 if QDQ t.name=false then 8
 else if t.unit<1\/t.unit>247 then 24
 else if t.kind<1\/t.kind>4 then 28
 else if t.addr<0\/t.addr>65536 - t.width then 21
 else if t.every<1\/t.every>1048576 then 3
 else if QCk t.wide t.swap t.mul t.div t.add≠0 then QCk t.wide t.swap t.mul t.div t.add
 else if t.kind<=2/\¬(t.wide=false/\t.sgn=false/\t.swap=false/\t.mul=1/\t.div=1/\t.add=0) then 25
 else if bandE t.dead t.quiet≠0 then bandE t.dead t.quiet
 else QcA t.ulow t.uhigh t.low t.high t.hyst
theorem QJu(t:Tag):t.width=1\/t.width=2:=by unfold Tag.width;split<;>simp
theorem QBx(x lo hi:Int)(h:lo<=hi):Ct Pr 348 [.I x,.I lo,.I hi] .one [.I] [] emp (fun t Bs=>((x != t.1)=(decide (x<lo)||decide (x>hi)))/\(t.1=if x<lo then lo else if x>hi then hi else x)/\Bs=[]):=by
 refine sp1 (QF6 _ _ _) fun B _=>?_;unfold QF6 mf;dsimp only
 have e:(if hi<if lo>x then lo else x then hi else if lo>x then lo else x)=(if x<lo then lo else if x>hi then hi else x):=by (repeat' split)<;>omega
 rw[e];refine QAD ⟨?_,rfl,rfl⟩;show (x != _)=_;by_cases h1:x<lo
 ·have a:x≠lo:=Om
  simp[h1,a]
 ·by_cases b:x>hi
  ·have a:x≠hi:=Om
   simp[h1,b,a]
  ·simp[h1,b]
theorem QFD(wide sgn swap:Bool)(mul div add:Int):Ct Pr 256 [.agg #[.bool wide,.bool sgn,.bool swap,.I mul,.I div,.I add]] .one [.I] [] emp (fun t Bs=>t.1=QCk wide swap mul div add/\Bs=[]):=by
 refine sp1 (QNS _ _ _ _ _ _) fun B _=>?_;have a:∀{x:Int}{As:List HP},x=QCk wide swap mul div add->Ent B As (Ret B (ss:=[.I]) (fun t Bs=>t.1=QCk wide swap mul div add/\Bs=[]) (x,())):=fun h=>QAd (l:=[]) (QAD ⟨h,rfl⟩);unfold QNS mf;dsimp only;refine QAL fun b=>QAP (QAM (xgq (xif (fun h0=>?_) (fun h0=>?_))))
 ·refine QCC rfl (a ?_);unfold QCk;rw[We (by simp at h0;omega)]
 refine xgq (xgq ?_);refine QAS (QBx _ _ _ Dc) rdb ?_;rintro⟨x,_⟩ _ ⟨hx,_,rfl⟩;refine QA2 (ca1 (QDK (h:=?_)));simp only at hx;rw[hx];refine xif (fun h1=>a ?_) (fun h1=>?_)
 ·unfold QCk;simp at h1;rw[We Om]
 refine QAP (xgq (xgq ?_));refine QAS (QBx _ _ _ Dc) rdb ?_;rintro⟨y,_⟩ _ ⟨g,_,rfl⟩;refine QA2 (ca1 (QDK (h:=?_)));simp only at g;rw[g];refine xif (fun e=>a ?_) (fun e=>?_)
 ·unfold QCk;simp at e;rw[We Om]
 refine QAP (xgq (xgq ?_));refine QAS (QBx _ _ _ Dc) rdb ?_;rintro⟨z,_⟩ _ ⟨i,_,rfl⟩;refine QA2 (ca1 (QDK (h:=?_)));simp only at i;rw[i];refine xif (fun f=>a ?_) (fun f=>?_)
 ·unfold QCk;simp at f;rw[We Om]
 simp at h0 h1 e f;refine xgq (QAM (xif (fun d=>xgq ?_) (fun d=>QBH rfl (a ?_))))
 ·refine xif (fun c=>a ?_) (fun c=>a ?_)
  ·simp at c;unfold QCk;rw[We (by simp[d,c])]
  ·simp at c;unfold QCk;rw[Wb (by simp[d,c];omega)]
 ·unfold QCk;rw[Wb (by simp[d];omega)]
theorem QOO(d q:Int):Ct Pr 257 [.agg #[.I d,.I q]] .one [.I] [] emp (fun t Bs=>t.1=bandE d q/\Bs=[]):=by
 refine sp1 (QPp _ _) fun B _=>?_;have a:∀{x:Int}{As:List HP},x=bandE d q->Ent B As (Ret B (ss:=[.I]) (fun t Bs=>t.1=bandE d q/\Bs=[]) (x,())):=fun h=>QAd (l:=[]) (QAD ⟨h,rfl⟩);unfold QPp mf;dsimp only;refine QAL fun b=>xgq ?_;repeat' (first|refine QAM ?_|refine QCC rfl ?_|refine QBH rfl ?_|refine xgq ?_|refine xif (fun h0=>?_) (fun h0=>?_))
 all_goals
  refine a ?_
  simp only[Wq,Wx]at *
  unfold bandE;first|rw[We Om]|rw[Wb Om]
theorem QH5(t:Tag):Ct Pr 123 [t.v] .one [.I] [] emp (fun r Bs=>r.1=t.width/\Bs=[]):=by
 refine sp1 (QPH _ _ _ _ _ _ _ _ _ _ _ _ _ _ _ _ _ _ _) fun B _=>?_;have a:∀{x:Int}{As:List HP},x=t.width->Ent B As (Ret B (ss:=[.I]) (fun r Bs=>r.1=t.width/\Bs=[]) (x,())):=fun h=>QAd (l:=[]) (QAD ⟨h,rfl⟩);unfold QPH mf;dsimp only;refine QAL fun b=>xgq (QAM (xif (fun h=>xgq (QAM (xif (fun h1=>QCC rfl (a ?_)) (fun h1=>xgq (xif (fun c=>a ?_) (fun c=>a ?_)))))) (fun h=>QBH rfl (a ?_))))
 all_goals
  unfold Tag.width;split<;>simp_all
def Qj9(b:Nat)(t:Tag)(As:List HP):Prop:=As=[Blk b t.cells]
theorem QXp(t:Tag):Ct Pr 172 [t.v] .one [.I] [] emp (fun r Bs=>r.1=tagE t/\Bs=[]):=by
 refine QG9 QTd fun B _=>?_;have a:∀{x:Int}{As:List HP},x=tagE t->Ent B As (Ret B (ss:=[.I]) (fun r Bs=>r.1=tagE t/\Bs=[]) (x,())):=fun h=>QAd (l:=[]) (QAD ⟨h,rfl⟩);have Z:=QJu t;unfold QO6;refine QAL fun b=>xgq ?_;refine QAS (QSx _) rdb ?_;rintro⟨x,_⟩ _ ⟨hx,rfl⟩;simp only at hx;subst hx;refine QA2 (ca1 (xif (fun h1=>a ?_) (fun h1=>xgq (QAM ?_))))
 ·unfold tagE;rw[We (Si h1)]
 have c:¬QDQ t.name=false:=Si h1
 have D:(t.unit<1\/t.unit>247)->24=tagE t:=fun h=>by unfold tagE;rw[Wb c,We h]
 refine xif (fun n=>QCC rfl (a (D (.inl (Si n))))) (fun n=>QAh (h:=xif (fun o=>a (D (.inr (Si o)))) (fun o=>xgq (QAM ?_))))
 have d:¬(t.unit<1\/t.unit>247):=by simp at n o;omega
 have E:(t.kind<1\/t.kind>4)->28=tagE t:=fun h=>by unfold tagE;rw[Wb c,Wb d,We h]
 refine xif (fun p=>QCC rfl (a (E (.inl (Si p))))) (fun p=>QAh (h:=xif (fun q=>a (E (.inr (Si q)))) (fun q=>QAP (QAM (xgq ?_)))))
 have e:¬(t.kind<1\/t.kind>4):=by simp at p q;omega
 have G:(t.addr<0\/t.addr>65536 - t.width)->21=tagE t:=fun h=>by unfold tagE;rw[Wb c,Wb d,Wb e,We h]
 refine xif (fun s=>QCC rfl (a (G (.inl (Si s))))) (fun s=>?_);iterate 20 (refine xgq ?_)
 refine QAS (QH5 t) rdb ?_;rintro⟨x,_⟩ _ ⟨hx,rfl⟩;simp only at hx;subst hx;refine QA2 (ca1 (QDK (h:=?_)));rw[QAC _ Om Om];refine xif (fun u=>a (G (.inr (Si u)))) (fun u=>xgq (QAM ?_))
 have i:¬(t.addr<0\/t.addr>65536 - t.width):=by simp at s u;omega
 have H:(t.every<1\/t.every>1048576)->3=tagE t:=fun h=>by unfold tagE;rw[Wb c,Wb d,Wb e,Wb i,We h]
 refine xif (fun w=>QCC rfl (a (H (.inl (Si w))))) (fun w=>QAh (h:=xif (fun y=>a (H (.inr (Si y)))) (fun y=>?_)))
 have m:¬(t.every<1\/t.every>1048576):=by simp at w y;omega
 iterate 6 (refine xgq ?_)
 refine QAS (QFD _ _ _ _ _ _) rdb ?_;rintro⟨x,_⟩ _ ⟨hx,rfl⟩;simp only at hx;subst hx;refine QA2 (ca1 (xif (fun f=>a ?_) (fun f=>?_)))
 ·have f:QCk t.wide t.swap t.mul t.div t.add≠0:=Si f
  unfold tagE;rw[Wb c,Wb d,Wb e,Wb i,Wb m,We f]
 have A:¬QCk t.wide t.swap t.mul t.div t.add≠0:=Si f
 have rest:∀{As:List HP},Qj9 b t As->¬(t.kind<=2/\¬(t.wide=false/\t.sgn=false/\t.swap=false/\t.mul=1/\t.div=1/\t.add=0))->Ent B As
   (QAn (.I) ⟨b,11,none⟩ fun(J:Int)=>QAn (.I) ⟨b,12,none⟩ fun(K:Int)=>QAX Pr 257 [.agg #[.I J,.I K]] .one [.I]<|fun(C:Int)=>XIf (C != 0) (Ret B (ss:=[.I]) (fun r Bs=>r.1=tagE t/\Bs=[]) (C,())) (QAn .bool ⟨b,13,none⟩ fun(L:Bool)=>QAn .bool ⟨b,14,none⟩ fun(M:Bool)=>QAn .bool ⟨b,15,none⟩ fun(N:Bool)=>QAn (.I) ⟨b,16,none⟩ fun(O:Int)=>QAn (.I) ⟨b,17,none⟩ fun(P:Int)=>QAn (.I) ⟨b,18,none⟩ fun(Q:Int)=>QAX Pr 258 [.agg #[.bool L,.bool M,.bool N,.I O,.I P,.I Q]] .one [.I]<|fun(R:Int)=>(Ret B (ss:=[.I]) (fun r Bs=>r.1=tagE t/\Bs=[]) (R,())))):=by
  rintro As rfl k;iterate 2 (refine xgq ?_)
  refine QAS (QOO _ _) rdb ?_;rintro⟨x,_⟩ _ ⟨hx,rfl⟩;simp only at hx;subst hx;refine QA2 (ca1 (xif (fun g=>a ?_) (fun g=>?_)))
  ·have g:bandE t.dead t.quiet≠0:=Si g
   unfold tagE;rw[Wb c,Wb d,Wb e,Wb i,Wb m,Wb A,Wb k,We g]
  have Y:¬bandE t.dead t.quiet≠0:=Si g
  iterate 6 (refine xgq ?_)
  refine QAS (QJ8 _ _ _ _ _ _) rdb ?_;rintro⟨x,_⟩ _ ⟨hx,rfl⟩;simp only at hx;subst hx;refine QA2 (ca1 (a ?_));unfold tagE;rw[Wb c,Wb d,Wb e,Wb i,Wb m,Wb A,Wb k,Wb Y]
 refine xgq (QAM (xif (fun z=>?_) (fun z=>QBH rfl (rest rfl fun h=>?_))))
 ·iterate 6 (refine xgq ?_)
  refine xif (fun j=>a ?_) (fun j=>rest rfl fun h=>?_)
  ·have k:t.kind<=2/\¬(t.wide=false/\t.sgn=false/\t.swap=false/\t.mul=1/\t.div=1/\t.add=0):=by
    refine⟨Si z,?_⟩;rintro⟨S,T,U,V,W,X⟩;rw[S,T,U,V,W,X]at j;cases j
   unfold tagE;rw[Wb c,Wb d,Wb e,Wb i,Wb m,Wb A,We k]
  ·refine h.2 ?_;simpa [Wf,Zq]using j
 ·simp at z;omega
def QIz(ts:List Tag)(i:Nat):Int:=match ts[i]? with
 | none=>0
 | some t=>if tagE t≠0 then tagE t else match i with
  | 0=>0
  | k+1=>match ts[k]? with
   | none=>0
   | some u=>if (t.name.toList == u.name.toList)=true then 7 else if Op.bytesLess t.name.toList u.name.toList=true then 29 else 0
def QVJ(ts:List Tag):Nat->Nat->Int×Int
 | 0,_=>(0,0)
 | n+1,i=>if QIz ts i≠0 then (QIz ts i,(i:Int)) else QVJ ts n (i+1)
def allE(ts:List Tag):Int×Int:=if ts.length>64 then (34,0) else QVJ ts ts.length 0
theorem Qcx{ts:List Tag}:∀(n i:Nat),(QVJ ts n i).1=0->∀k,i<=k->k<i+n->QIz ts k=0:=by
 intro n
 induction n with
 | zero=>intro i _ k h1 a;omega
 | succ n ih=>
  intro i h k h1 a;unfold QVJ at h;split at h
  ·rename_i hb;exact absurd h hb
  ·rename_i hb
   by_cases e:k=i
   ·subst e;simpa using hb
   ·exact ih (i+1) h k Om Om
theorem allE_len{ts:List Tag}(h:(allE ts).1=0):ts.length<=64:=by
 unfold allE at h;split at h
 ·cases h
 ·omega
theorem allE_tag{ts:List Tag}(h:(allE ts).1=0){k:Nat}{t:Tag}(a:ts[k]? = some t):tagE t=0:=by
 have hl:=allE_len h;unfold allE at h;rw[Wb Om]at h;have:=Qcx _ _ h k Om (by have:=(Wc.1 a).1;omega);unfold QIz at this;rw[a]at this;simp only at this;split at this
 ·rename_i h0;exact absurd this h0
 ·rename_i h0;simpa using h0
theorem Qdg(x:Ab):Op.bytesLess x []=false:=by cases x<;>rfl
def QLc(ts:List Tag)(k:Nat):ByteArray:=match k with
 | 0=>ByteArray.empty
 | j+1=>match ts[j]? with
  | some u=>u.name
  | none=>ByteArray.empty
theorem CheckAll_spec(l:Sl)(ts:List Tag):Ct Pr 115 [l.v] (.tup [none,none]) [.I,.I] [] (RAr TG l ts) (fun r Bs=>r.1=(allE ts).1/\r.2.1=(allE ts).2/\Bs=[]):=by
 refine sp2 (QJN _) fun B m=>?_;haveI:Fro B l TG ts:=⟨m⟩;have hn:=m.1;have f:∀{x y:Int}{As:List HP},(x,y)=allE ts->Ent B As (Ret B (ss:=[.I,.I]) (fun r Bs=>r.1=(allE ts).1/\r.2.1=(allE ts).2/\Bs=[]) (x,y,())):=fun h=>QAd (l:=[]) (QAD ⟨by rw[<-h],by rw[<-h],rfl⟩);unfold QJN mf;dsimp only;refine QAB (fun q=>f ?_) (fun q=>?_)
 ·unfold allE;rw[We Om]
 have hl:ts.length<=64:=Om
 have he:allE ts=QVJ ts ts.length 0:=by unfold allE;rw[Wb Om]
 refine QBt (fun n (last:ByteArray) (x:Int) As'=>∃k:Nat,x=(k:Int)/\n=ts.length - k/\k<=ts.length/\last=QLc ts k/\allE ts=QVJ ts (ts.length - k) k) ts.length ⟨0,rfl,Om,Om,rfl,he⟩ ?_;rintro n last x As' K ⟨k,rfl,rfl,w,rfl,p⟩ s;refine QAB (fun i=>?_) (fun i=>f ?_)
 ·have i:k<ts.length:=Om
  refine QAH (h1:=i) (h:=fun t c=>?_);refine QAN c (h:=?_);iterate 18 (refine QAa c (h:=?_))
  refine QAL fun b=>?_;iterate 19 (refine xsq ?_)
  iterate 19 (refine xgq ?_)
  refine QAS (QXp t) rdb ?_;rintro⟨x,_⟩ _ ⟨hx,rfl⟩;simp only at hx;subst hx
  have g:allE ts=if QIz ts k≠0 then (QIz ts k,(k:Int)) else QVJ ts (ts.length - (k+1)) (k+1):=by
   rw[p,show ts.length - k=(ts.length - (k+1))+1 by omega];rfl
  refine QA2 (ca1 (xif (fun h0=>f ?_) (fun h0=>?_)))
  ·have h0:tagE t≠0:=Si h0
   have hb:QIz ts k=tagE t:=by unfold QIz;rw[c];simp only;rw[We h0]
   rw[g,hb,We h0]
  have h0:tagE t=0:=Si h0
  have next:QIz ts k=0->∀o,Ent B o (K t.name (IntKind.i64.wrap ((k:Int)+1))):=fun hb o=>by
   rw[QAE k Om];refine s (ts.length - (k+1)) _ _ _ Om ⟨k+1,rfl,rfl,Om,?_,?_⟩
   ·simp only[QLc,c]
   ·rw[g,Wb (by simp[hb])]
  refine QAM (xif (fun h1=>xgq (xif (fun e=>f ?_) (fun e=>xgq (xif (fun a=>f ?_) (fun a=>xgq (next ?_ _)))))) (fun h1=>QBH rfl (xgq (xif (fun a=>?_) (fun a=>xgq (next ?_ _))))))
  ·cases k with
   | zero=>simp at h1
   | succ j=>
    obtain⟨u,d⟩:∃u,ts[j]? = some u:=⟨_,Wa Om⟩;simp only[QLc,d]at e
    have hb:QIz ts (j+1)=7:=by simp only[QIz,c,d,h0,e,ne_eq,Uq,O7,Oa]
    rw[g,hb];rfl
  ·cases k with
   | zero=>simp at h1
   | succ j=>
    obtain⟨u,d⟩:∃u,ts[j]? = some u:=⟨_,Wa Om⟩;simp only[QLc,d]at e a
    have hb:QIz ts (j+1)=29:=by simp only[QIz,c,d,h0,e,a,ne_eq,Uq,O7,Oa,Wi]
    rw[g,hb];rfl
  ·cases k with
   | zero=>simp at h1
   | succ j=>
    obtain⟨u,d⟩:∃u,ts[j]? = some u:=⟨_,Wa Om⟩;simp only[QLc,d]at e a;simp only[QIz,c,d,h0,e,a,ne_eq,Uq,Oa,Wi]
  ·obtain rfl:k=0:=by simp at h1;omega
   simp only[QLc,QKY,Qdg]at a;cases a
  ·obtain rfl:k=0:=by simp at h1;omega
   simp only[QIz,c,h0,ne_eq,Uq,Oa]
 ·have:k=ts.length:=Om
  subst this;rw[p,Ur];rfl
def QMc(x y:Int):Int:=if x<y then -1 else if x>y then 1 else 0
def orL:Ae->Int
 | []=>0
 | x::xs=>if x≠0 then x else orL xs
def QiU(a b:Tag)(i k:Int):Int:=orL [QMc a.unit b.unit,QMc a.every b.every,QMc a.kind b.kind,QMc a.addr b.addr,QMc i k]
theorem QFo(x:Int):Ct Pr 269 [.I x] .one [.bool] [] emp (fun t Bs=>t.1=false/\Bs=[]):=by
 refine sp1 (QIR _) fun B _=>?_;unfold QIR mf;dsimp only;exact QAD ⟨by simp,rfl⟩
theorem QCS(x y:Int):Ct Pr 197 [.I x,.I y] .one [.I] [] emp (fun t Bs=>t.1=QMc x y/\Bs=[]):=by
 refine sp1 (QGx _ _) fun B _=>?_;unfold QGx mf;dsimp only;refine QAS (QFo _) rdb ?_;rintro⟨c,_⟩ _ ⟨hc,rfl⟩;simp only at hc;subst hc;refine QA2 (ca1 ?_);refine QAS (QFo _) rdb ?_;rintro⟨c,_⟩ _ ⟨hc,rfl⟩;simp only at hc;subst hc;refine QA2 (ca1 (QBH rfl (QBH rfl (QAB (fun h=>QAD ⟨?_,rfl⟩) (fun h=>QAB (fun a=>QAD ⟨?_,rfl⟩) (fun a=>QAD ⟨?_,rfl⟩))))))
 ·unfold QMc;rw[We h]
 ·unfold QMc;rw[Wb h,We a]
 ·unfold QMc;rw[Wb h,Wb a]
theorem Qd5(xs:Ae)(k:Nat)(x:Int)(h:xs[k]? = some x)(h0:x=0):orL (xs.drop k)=orL (xs.drop (k+1)):=by
 obtain⟨h1,a⟩:=Wc.1 h;rw[Ws h1,a,h0];rfl
theorem QgC(s:Sl)(xs:Ae)(hb:xs.length<4611686018427387904):Ct Pr 196 [s.v] .one [.I] [] (RAr I64 s xs) (fun t Bs=>t.1=orL xs/\Bs=[]):=by
 refine sp1 (QMx _) fun B a=>?_;haveI:Fro B s I64 xs:=⟨a⟩;have hn:=a.1;unfold QMx mf;dsimp only;refine QBa (fun n (x:Int) As'=>∃k:Nat,x=(k:Int)/\n=xs.length - k/\k<=xs.length/\As'=[]/\orL xs=orL (xs.drop k)) xs.length ⟨0,rfl,Om,Om,rfl,rfl⟩ ?_;rintro n x As' K ⟨k,rfl,rfl,e,rfl,he⟩ c;refine QAB (fun b=>?_) (fun b=>?_)
 ·refine QAH (h1:=Om) (h:=fun x hx=>?_);refine QAN hx (h:=xif (fun h0=>QAD ⟨?_,rfl⟩) (fun h0=>?_))
  ·rw[he,Ws (by omega:k<xs.length)];obtain⟨h1,d⟩:=Wc.1 hx;rw[d]
   have:x≠0:=Si h0
   simp[orL,this]
  ·rw[QAE k Om];exact c _ _ _ Om ⟨k+1,rfl,rfl,Om,rfl,by rw[he];exact Qd5 xs k x hx (Si h0)⟩
 ·refine QAD ⟨?_,rfl⟩;rw[he,Zh Om];rfl
theorem QiA{E:Enc α}{b n c:Nat}{xs:List α}{x:α}{sh:Sh}{v:sh.ty}{K:sh.ty->WP}[r:RdA B As ⟨some ⟨b,0,none⟩,n,c⟩ E xs](hx:xs[0]? = some x)(hv:(E.f x)[0]? = some (sh.mk v):=by rfl)(h:Ent B As (K v)):Ent B As (QAn sh ⟨b,0,none⟩ K):=by
 have:=QAN (B:=B) (As:=As) (s:=⟨some ⟨b,0,none⟩,n,c⟩) (E:=E) (i:=0) (sz:=E.sz) (K:=K) hx rfl hv h;simpa [Sl.at,Addr.add]using this
theorem QjJ{E:Enc α}{b n c:Nat}{xs:List α}{x:α}{v:Value}{K:WP}[r:RdA B As ⟨some ⟨b,0,none⟩,n,c⟩ E xs](hx:xs[0]? = some x)(hv:(E.f x)[0]? = some v:=by rfl)(h:Ent B As K):Ent B As (QKR ⟨b,0,none⟩ v K):=by
 have:=QOC (B:=B) (As:=As) (s:=⟨some ⟨b,0,none⟩,n,c⟩) (E:=E) (i:=0) (sz:=E.sz) (K:=K) hx rfl hv h;simpa [Sl.at,Addr.add]using this
abbrev Qij(bc:Nat)(l:Sl)(ts:List Tag):HP:=(RAr SL ⟨some ⟨bc,0,none⟩,1,1⟩ [l]).and (RAr TG l ts)
theorem QVL(bc:Nat)(l:Sl)(ts:List Tag)(i k:Nat)(a d:Tag)(hi:ts[i]? = some a)(e:ts[k]? = some d):Ct Pr 195 [.I (i:Int),.I (k:Int),.pointer (some ⟨bc,0,none⟩)] .one [.I] [] (Qij bc l ts)
  (fun t Bs=>t.1=QiU a d i k/\Bs=[]):=by
 refine sp1 (QLD _ _ _) fun B j=>?_;haveI:Fro B ⟨some ⟨bc,0,none⟩,1,1⟩ SL [l]:=⟨j.1⟩;haveI:Fro B l TG ts:=⟨j.2⟩;have hn:=j.2.1;have p:=(Wc.1 hi).1;have q:=(Wc.1 e).1;unfold QLD mf;dsimp only;refine QAP ?_;refine QiA (n:=1) (c:=1) (x:=l) rfl (h:=?_);refine QAH (h1:=p) (h:=fun t f=>?_)
 obtain rfl:a=t:=by rw[hi]at f;cases f;rfl
 refine QAN hi (h:=?_);iterate 18 (refine QAa hi (h:=?_))
 refine QiA (n:=1) (c:=1) (x:=l) rfl (h:=?_);refine QAH (h1:=q) (h:=fun t f=>?_)
 obtain rfl:d=t:=by rw[e]at f;cases f;rfl
 refine QAN e (h:=?_);iterate 18 (refine QAa e (h:=?_))
 refine QZK ?_ ?_
 all_goals
  refine QAL fun b=>QAL fun r=>?_;iterate 19 (refine xsq ?_)
  refine QOC e (h:=?_);iterate 18 (refine QWB e (h:=?_))
  refine QjJ (n:=1) (c:=1) (x:=l) rfl (h:=?_);iterate 19 (refine xsq ?_)
  refine QAP ?_;iterate 8 (refine xgq ?_)
  refine QAS (QCS _ _) rdb ?_;rintro⟨x,_⟩ _ ⟨hx,rfl⟩;simp only at hx;subst hx;refine QA2 (ca1 ?_);iterate 6 (refine QDK (h:=?_))
  refine QAS (QCS _ _) rdb ?_;rintro⟨x,_⟩ _ ⟨hx,rfl⟩;simp only at hx;subst hx;refine QA2 (ca1 ?_);iterate 4 (refine QDK (h:=?_))
  refine QAS (QCS _ _) rdb ?_;rintro⟨x,_⟩ _ ⟨hx,rfl⟩;simp only at hx;subst hx;refine QA2 (ca1 ?_);iterate 2 (refine QDK (h:=?_))
  refine QAS (QCS _ _) rdb ?_;rintro⟨x,_⟩ _ ⟨hx,rfl⟩;simp only at hx;subst hx;refine QA2 (ca1 ?_);refine QAS (QCS _ _) rdb ?_;rintro⟨x,_⟩ _ ⟨hx,rfl⟩;simp only at hx;subst hx;refine QA2 (ca1 ?_);refine QAL fun m=>?_;refine QAg (Q:=Ar I64 ⟨some ⟨m,0,none⟩,5,5⟩ [QMc a.unit d.unit,QMc a.every d.every,QMc a.kind d.kind,QMc a.addr d.addr,QMc (i:Int) (k:Int)]) 0 (fun g o=>⟨[],QAp _ 5 rfl rfl o⟩) ?_;refine QAS (QgC ⟨some ⟨m,0,none⟩,5,5⟩ [QMc a.unit d.unit,QMc a.every d.every,QMc a.kind d.kind,QMc a.addr d.addr,QMc (i:Int) (k:Int)] (by simp)) rdb ?_;rintro⟨x,_⟩ _ ⟨hx,rfl⟩;simp only at hx;subst hx;exact QA2 (ca1 (QAd (l:=[]) (QAD ⟨rfl,rfl⟩)))
def QR1(a b:Tag)(i k:Int):Prop:=a.unit<b.unit\/(a.unit=b.unit/\(a.every<b.every\/(a.every=b.every/\(a.kind<b.kind\/(a.kind=b.kind/\(a.addr<b.addr\/(a.addr=b.addr/\i<k)))))))
theorem QFv(x y:Int):(x<y/\QMc x y = -1)\/(x=y/\QMc x y=0)\/(y<x/\QMc x y=1):=by
 unfold QMc;by_cases h:x<y
 ·exact .inl ⟨h,We h⟩
 ·rw[Wb h];by_cases a:x>y
  ·exact .inr (.inr ⟨a,We a⟩)
  ·exact .inr (.inl ⟨Om,Wb a⟩)
theorem Qcl(a b:Tag)(i k:Int):QiU a b i k<0↔QR1 a b i k:=by
 unfold QiU QR1;rcases QFv a.unit b.unit with⟨h,e⟩|⟨h,e⟩|⟨h,e⟩
 ·simp[orL,e,h]
 ·simp only[orL,e,ne_eq,Uq,Oa];rcases QFv a.every b.every with⟨h1,d⟩|⟨h1,d⟩|⟨h1,d⟩
  ·simp[d,h1,h]
  ·simp only[d,ne_eq,Uq,Oa];rcases QFv a.kind b.kind with⟨c,f⟩|⟨c,f⟩|⟨c,f⟩
   ·simp[f,c,h1,h]
   ·simp only[f,ne_eq,Uq,Oa];rcases QFv a.addr b.addr with⟨g,j⟩|⟨g,j⟩|⟨g,j⟩
    ·simp[j,g,c,h1,h]
    ·simp only[j,ne_eq,Uq,Oa];rcases QFv i k with⟨m,l⟩|⟨m,l⟩|⟨m,l⟩
     ·simp[l,m,g,c,h1,h]
     ·rw[l];simp;omega
     ·simp[l,g,c,h1,h];omega
    ·simp[j,c,h1,h];omega
   ·simp[f,h1,h];omega
  ·simp[d,h];omega
 ·simp[orL,e];omega
def cfT(ts:List Tag)(i k:Fin ts.length):Int:=QiU ts[i] ts[k] (i.val:Int) (k.val:Int)
def ltT(ts:List Tag)(i k:Fin ts.length):Bool:=ltOf (cfT ts) i k
theorem QQO(ts:List Tag)(i k:Fin ts.length):ltT ts i k=true↔QR1 ts[i] ts[k] (i.val:Int) (k.val:Int):=by
 unfold ltT ltOf cfT;rw[Wq,Qcl]
theorem QF7(ts:List Tag)(i k:Fin ts.length):ltT ts i k=false↔¬QR1 ts[i] ts[k] (i.val:Int) (k.val:Int):=by
 rw[<-QQO,Bool.not_eq_true]
theorem QkV(ts:List Tag):SWO (ltOf (cfT ts)) where
 irrefl x:=by
  show ltT ts x x=false;rw[QF7];unfold QR1;omega
 trans x y z h1 a:=by
  have h1:=(QQO ts _ _).1 h1;have a:=(QQO ts _ _).1 a;refine (QQO ts _ _).2 ?_;unfold QR1 at *;omega
 ntrans x y z h1 a:=by
  have h1:=(QF7 ts _ _).1 h1;have a:=(QF7 ts _ _).1 a;refine (QF7 ts _ _).2 ?_;unfold QR1 at *;omega
theorem Qj3(ts:List Tag)(x y:Fin ts.length)(h1:ltOf (cfT ts) x y=false)(a:ltOf (cfT ts) y x=false):x=y:=by
 have h1:=(QF7 ts _ _).1 h1;have a:=(QF7 ts _ _).1 a;apply Fin.ext;unfold QR1 at *;omega
def QS5(ts:List Tag):List (Fin ts.length):=(List.finRange ts.length).mergeSort fun x y=>!(ltT ts y x)
def QOA(ts:List Tag):Ae:=(QS5 ts).map fun i=>(i.val:Int)
def QQq(n:Nat):Ae:=(List.range n).map fun(i:Nat)=>(i:Int)
theorem Sx.grow{w:World}(h:Sx B As w)(os:Array Obj):Sx B As (Go.Sort.grow w os):=by
 obtain⟨g,c,d,a⟩:=h
 have key:∀k o,w.heap[k]? = some o->(w.heap++os)[k]? = some o:=fun k o e=>by
  rw[Ud (W9.1 e).1,e]
 refine⟨g,c,fun k o e=>key k o (d k o e),a.os,a.tape,a.output,a.drawn,by have:=a.size;simp[Go.Sort.grow];omega,fun k b h0=>⟨?_,(a.old k b h0).2⟩⟩;show (w.heap++os)[k]? = _;rw[Ud (Ug b a.size)];exact (a.old k b h0).1
theorem Sx.ahead{w:World}(h:Sx B As w)(n:Nat):Sx B As (Go.Sort.ahead w n):=by
 obtain⟨g,b,c,a⟩:=h;exact⟨g,b,c,a.os,a.tape,a.output,Oq a.drawn (Ue _ _),a.size,a.old⟩
theorem Qch{W w':World}{Bs:List HP}(h:Sx ⟨W,fun _=>none⟩ Bs w'):∃q os,w'=Go.Sort.grow (W.drewN q) os:=by
 obtain⟨g,_,_,a⟩:=h;refine⟨w'.drawn - W.drawn,w'.heap.extract W.heap.size w'.heap.size,?_⟩;have h1:=a.os;have b:=a.tape;have c:=a.output;have f:=a.drawn;have j:=a.size;have d:=a.old;obtain⟨heap,tape,drawn,os,output⟩:=w';obtain⟨e,k,l,m,n⟩:=W;simp only at h1 b c f j d;subst h1 b c;simp only[Go.Sort.grow,World.drewN,World.mk.injEq,and_true,true_and];refine⟨?_,Om⟩;apply Zt;apply Uf;intro i;simp only[Array.getElem?_toList];by_cases hi:i<e.size
 ·rw[Ud hi];exact (d i hi (by trivial)).1
 ·rw[Array.getElem?_append_right Om,Array.getElem?_extract];by_cases hj:i<heap.size
  ·rw[We Om];congr 1;omega
  ·rw[Wb Om];simp;omega
theorem QGs(xs:Ae):QAi I64 xs=xs.map (Value.int .i64):=by
 induction xs with
 | nil=>rfl
 | cons x xs ih=>show _++QAi I64 xs=_;rw[ih];rfl
theorem QaQ{α:Type}[Inhabited α](enc:α->Value)(w:World)(a off m:Nat)(d:Array α)(os:Array Obj)(k:Nat)(b:k<w.heap.size)(c:k≠a):(sortWorld enc w a off m d os).heap[k]? = w.heap[k]?:=by
 unfold sortWorld Go.Sort.grow;show ((putRow enc (Go.Sort.ahead w m) a off d).heap++os)[k]? = _;rw[Ud (by simp[putRow,mapBlock,Go.Sort.ahead];exact b)];simp[putRow,mapBlock,Go.Sort.ahead,Ke,Ne.symm c]
def Qem(n:Nat)(i:Fin n):Value:=.I (i.val:Int)
theorem Qi8{bc a n:Nat}{l:Sl}{ts:List Tag}{K:WP}(hn:n=ts.length)(hl:ts.length<=64)[r:Rdb B F (Qij bc l ts)]
  (h:Ent B (Ar I64 ⟨some ⟨a,0,none⟩,n,n⟩ (QOA ts)::F) K) :
  Ent B (Ar I64 ⟨some ⟨a,0,none⟩,n,n⟩ (QQq n)::F) (QAX Pr 194 [.slice (some ⟨a,0,none⟩) n n,.func (.func 195) #[] #[.pointer (some ⟨bc,0,none⟩)]] (.tup []) [] K):=by
 intro w M;subst hn;by_cases h0:ts.length=0
 ·have hS:=AnyF.slices_SortFunc_none (P:=Pr) (ρ:=Go.Proofs.Tryz.sortL_ren) ({ Go.Proofs.Tryz.sortL with }) (some ⟨a,0,none⟩) 0 (.func (.func 195) #[] #[.pointer (some ⟨bc,0,none⟩)]) w;rw[h0];refine hS.mono ?_;rintro e w' ⟨rfl,rfl⟩;refine⟨(),rfl,h _ ?_⟩
  have a8:QOA ts=QQq ts.length:=by
   have:ts=[]:=Zw.1 h0;subst this;simp[QOA,QS5,QQq]
  rw[a8];exact M
 haveI:Inhabited (Fin ts.length):=⟨⟨0,Om⟩⟩;obtain⟨g,⟨a1,N,⟨zs,A⟩,O,Q,C,R⟩,D,S⟩:=M
 have a9:zs=[]:=by
  have h1:=A.2.1;have V:=A.1;simp only at h1 V;rw[V]at h1;exact Zw.1 Om
 subst a9;obtain⟨pre,post,T,a2⟩:=A.blk rfl;obtain rfl:pre=[]:=Zw.1 a2;rw[Oi,W6]at T;obtain⟨p,fr0,s,hfr⟩:=T;have hb:w.heap[a]? = some (.cells (QAi I64 (QQq ts.length)++post).toArray p fr0):=D _ _ (C _ _ s);have a':a<w.heap.size:=(W9.1 hb).1
 -- what the closure reads
 let E:QBs:=fun k=>if k=a then none else w.heap[k]?
 have X:Qij bc l ts E:=by
  refine r.go E ?_ N O ?_
  ·intro k o c;unfold frz at c
   cases L:B.h0 k with
   | some x=>rw[L]at c;cases c
   | none=>
    rw[L]at c;have G:k<B.W.heap.size:=(W9.1 c).1;have:=S.old k G L
    have H:k≠a:=fun e=>by
     subst e;rw[C _ _ s]at this;cases this.2
    show (if k=a then none else w.heap[k]?)=some o;rw[Wb H,this.1];exact c
  ·intro k o c
   have H:k≠a:=fun e=>by
    subst e;rcases Q k with e|e
    ·rw[s]at e;cases e
    ·rw[c]at e;cases e
   show (if k=a then none else w.heap[k]?)=some o;rw[Wb H];exact D _ _ (R _ _ c)
 let d:Array (Fin ts.length):=(List.finRange ts.length).toArray
 have v:d.size=ts.length:=by simp[d]
 have b0:∀j (hj:j<ts.length),d[j]! = ⟨j,hj⟩:=fun j hj=>by
  rw[getElem!_pos d j (by rw[v];exact hj)];simp[d]
 have J:∀j,j<ts.length->(QAi I64 (QQq ts.length)++post)[j]? = some (.I (j:Int)):=fun j hj=>by
  rw[QGs,Wj (by simp[QQq];exact hj)];simp[QQq,hj]
 have b1:Holds (Qem ts.length) w a 0 d:=fun j hj=>by
  rw[v]at hj;refine⟨?_,?_⟩
  ·simp only[World.cell?,hb,Z9];simp only[Z5,Wi,Oa,Zj];rw[J j hj,b0 j hj];rfl
  ·simp only[World.frozen?,hb,Uc,Wx]
   have G:0+j<(QAi I64 (QQq ts.length)++post).length:=by
    have:=J j hj;rw[Z9];exact (Wc.1 this).1
   have:=hfr (0+j) G;omega
 have b2:CmpLays1 Pr 195 #[.pointer (some ⟨bc,0,none⟩)] (Qem ts.length) (cfT ts) a 0 d.size w:=by
  intro m os z b9 x y;have hx:ts[x.val]? = some ts[x]:=Wa x.isLt;have b3:ts[y.val]? = some ts[y]:=Wa y.isLt
  have Y:Sub E (mem (sortWorld (Qem ts.length) w a 0 m z os)):=fun k o c=>by
   have i:(if k=a then none else w.heap[k]?)=some o:=c;by_cases e:k=a
   ·rw[We e]at i;cases i
   ·rw[Wb e]at i;show (sortWorld (Qem ts.length) w a 0 m z os).heap[k]? = some o;rw[QaQ _ _ _ _ _ _ _ _ (W9.1 i).1 e];exact i
  have:=QVL bc l ts x.val y.val _ _ hx b3 (sortWorld (Qem ts.length) w a 0 m z os) (fun _=>none) trivial (fun _ _ e=>by cases e) (by rw[QWY];exact⟨X.1.mono Y,X.2.mono Y⟩);refine this.mono ?_;rintro e w' ⟨t,Bs,he,⟨U,_⟩,a3⟩;refine⟨?_,Qch a3⟩;rw[he];obtain⟨b',u⟩:=t;simp only at U;subst U;rfl
 have hS:=Any.slices_SortFunc_total (P:=Pr) Go.Proofs.Tryz.sortL (Qem ts.length) (fun _=>rfl) (cfT ts) (QkV ts) 195 #[.pointer (some ⟨bc,0,none⟩)] a 0 ts.length d w
  (enters_of Go.Proofs.Tryz.func195 Kr rfl) b2 b1 a' (by rw[v];omega) (Qj3 ts)
 rw[v]at hS;refine hS.mono ?_;rintro e w' ⟨rfl,m,os,rfl⟩;refine⟨(),rfl,h _ ?_⟩
 have b4:(d.toList.mergeSort fun x y=>!(ltOf (cfT ts)) y x)=QS5 ts:=by simp[d,QS5,ltT]
 rw[b4];unfold sortWorld
 have f:(QS5 ts).length=ts.length:=by simp[QS5]
 have b5:Sx B (Blk a (QAi I64 (QQq ts.length)++post)::F) (Go.Sort.ahead w m):=by
  have b6:Sx B (Blk a (QAi I64 (QQq ts.length)++post)::F) w:=⟨g,⟨a1,N,⟨p,fr0,s,hfr⟩,O,Q,C,R⟩,D,S⟩;exact Go.Cx.Pn.Sx.ahead b6 m
 have b7:Sx B (Blk a (QAi I64 (QOA ts)++post)::F) (putRow (Qem ts.length) (Go.Sort.ahead w m) a 0 (QS5 ts).toArray):=by
  refine b5.write (e:=p) (fr:=fr0) hb (fun k c=>?_) ?_ ?_ rfl rfl rfl ⟨by simp[putRow,mapBlock],Wt _⟩
  ·simp[putRow,mapBlock,Ke,Ne.symm c]
  ·have b8:(Go.Sort.ahead w m).heap[a]? = some (.cells (QAi I64 (QQq ts.length)++post).toArray p fr0):=hb;simp only[putRow,mapBlock,Ke,O7,b8,U4,onCells];congr 2;apply Zt;apply Uf;intro j;simp only[Array.getElem?_toList,putCells,Array.getElem?_mapIdx,Zj,Ua,true_and,Z9,List.size_toArray,f,Nat.sub_zero];by_cases hj:j<ts.length
   ·rw[J j hj];simp only[U4,We hj];rw[QGs,Wj (by simp[QOA,f];exact hj)]
    have Z:j<(QS5 ts).length:=by rw[f];exact hj
    simp[QOA,Qem,Z,f,Wa Z]
   ·simp only[Wb hj];rw[Wr (by rw[QGs];simp[QQq];omega),Wr (by rw[QGs];simp[QOA,f];omega)];simp[QGs,QQq,QOA,f]
  ·rw[Wd,Wd,QGs,QGs];simp[QQq,QOA,f]
 obtain⟨a4,a5,a6,a7⟩:=Sx.grow b7 os;refine⟨a4,QA6 (fun q a0=>⟨[],Ars.of_blk (b:=a) (o:=0) (pre:=[]) (post:=post) (Si a0) rfl rfl ?_ ?_ ?_⟩) a5,a6,a7⟩
 ·simp[QOA,f]
 ·simp[QOA,f]
 ·show ts.length<=_;omega
theorem QKa(l:Sl)(ts:List Tag)(hl:ts.length<=64):Ct Pr 122 [l.v] .one [.slice] [] (RAr TG l ts) (fun t Bs=>Bs=[Ar I64 t.1 (QOA ts)]):=by
 refine sp1 (QOy _) fun B b=>?_;haveI:Fro B l TG ts:=⟨b⟩;have hn:=b.1;unfold QOy mf;dsimp only;refine QAL fun bc=>xgq ?_;refine QTF I64 Om Om (h:=fun c=>?_);rw[Wh,<-hn];refine QBa (fun m (x:Int) As'=>∃k:Nat,x=(k:Int)/\m=ts.length - k/\k<=ts.length/\∃ys:Ae,ys.length=ts.length/\(∀j,j<k->ys[j]? = (QQq ts.length)[j]?)/\As'=[Ar I64 ⟨some ⟨c,0,none⟩,ts.length,ts.length⟩ ys,Blk bc [l.v]]) ts.length ⟨0,rfl,Om,Om,_,by simp,fun j hj=>Om,rfl⟩ ?_;rintro m x As' K ⟨k,rfl,rfl,o,ys,d,e,rfl⟩ n;refine QAB (fun a=>?_) (fun a=>?_)
 ·have a:k<ts.length:=Si a
  refine QAH (E:=I64) (xs:=ys) (s:=⟨some ⟨c,0,none⟩,ts.length,ts.length⟩) (h1:=Om) (h:=fun y f=>?_);refine QIJ (k:Int) f rfl rfl (h:=?_);rw[QAE k Om];exact n _ _ _ Om ⟨k+1,rfl,rfl,Om,_,Si d,QcN e Om (by simp[QQq,a]),rfl⟩
 ·have a:¬k<ts.length:=Si a
  obtain rfl:ys=QQq ts.length:=QVe (by simp[QQq,d]) (fun j hj=>e j (by simp[QQq]at hj;omega));refine QFt 1 (QAg (Q:=Ar SL ⟨some ⟨bc,0,none⟩,1,1⟩ [l]) 0 (fun g i=>⟨[],QAp [l] 1 rfl rfl i⟩) ?_);refine QFt 1 (Qi8 (bc:=bc) (l:=l) rfl hl ?_);exact QCD 1 (QAD rfl)
structure Poll where
 unit:Int
 kind:Int
 addr:Int
 count:Int
 every:Int
 tags:Ae
abbrev poll0:Poll:=⟨0,0,0,0,0,[]⟩
def PR:Enc (Poll×Sl):=⟨fun q=>[.I q.1.unit,.I q.1.kind,.I q.1.addr,.I q.1.count,.I q.1.every,q.2.v],6,fun _=>rfl,fun t v h=>by
 simp only[W7,List.not_mem_nil,or_false]at h
 rcases h with h|h|h|h|h|h <;> (subst h;rfl),Dc,(poll0,⟨none,0,0⟩)⟩
abbrev EP:Poll×Sl->Poll×Sl->HP:=fun q _=>Ar I64 q.2 q.1.tags
def OPolls(s:Sl)(ps:List Poll):HP:=fun h=>∃a:List (Poll×Sl),a.map Prod.fst=ps/\QBr [Ar PR s a,Each EP a a] h
def QIV(k:Int):Int:=if k<=2 then 2000 else 125
def QQU(p:Poll)(t:Tag):Int:=if t.addr+t.width - p.addr>p.count then t.addr+t.width - p.addr else p.count
def QQC(p:Poll)(t:Tag):Bool:=decide (p.unit=t.unit/\p.every=t.every/\p.kind=t.kind/\t.addr<=p.addr+p.count+8/\QQU p t<=QIV p.kind)
def QRq(p:Poll)(t:Tag)(i:Int):Poll:={ p with count:=QQU p t,tags:=p.tags++[i] }
def QXE(t:Tag)(i:Int):Poll:=⟨t.unit,t.kind,t.addr,t.width,t.every,[i]⟩
def QQL(ps:List Poll)(t:Tag)(i:Int):List Poll:=match ps[ps.length - 1]? with
 | some p=>if QQC p t=true then ps.set (ps.length - 1) (QRq p t i) else ps++[QXE t i]
 | none=>ps++[QXE t i]
def planK(ts:List Tag)(k:Nat):List Poll:=((QS5 ts).take k).foldl (fun ps i=>QQL ps ts[i] (i.val:Int)) []
def planL(ts:List Tag):List Poll:=planK ts ts.length
def planM(ts:List Tag):List Poll:=if (allE ts).1=0 then planL ts else []
theorem QH7(ts:List Tag):(QS5 ts).length=ts.length:=by simp[QS5]
theorem QOa{ts:List Tag}{k:Nat}{i:Fin ts.length}(h:(QS5 ts)[k]? = some i):planK ts (k+1)=QQL (planK ts k) ts[i] (i.val:Int):=by
 unfold planK;rw[Og,h];simp
theorem QWZ{t:Tag}(h:tagE t=0):1<=t.unit/\t.unit<=247/\1<=t.kind/\t.kind<=4/\0<=t.addr/\t.addr<=65536 - t.width/\1<=t.every/\t.every<=1048576/\QCk t.wide t.swap t.mul t.div t.add=0:=by
 unfold tagE at h;split at h
 ·cases h
 split at h
 ·cases h
 split at h
 ·cases h
 split at h
 ·cases h
 split at h
 ·cases h
 split at h
 ·rename_i h0;exact absurd h h0
 rename_i h1 b c d a
 refine⟨Om,Om,Om,Om,Om,Om,Om,Om,?_⟩
 rename_i e
 simpa using a
def QO4(n:Nat)(p:Poll):Prop:=0<=p.addr/\p.addr<=65535/\1<=p.count/\p.count<=2000/\p.tags.length<=n
theorem QdL{n:Nat}{ps:List Poll}{t:Tag}{i:Int}(h:∀p∈ps,QO4 n p)(s:tagE t=0):∀p∈QQL ps t i,QO4 (n+1) p:=by
 have y:=QJu t;obtain⟨_,_,_,_,f,a2,_⟩:=QWZ s;have r:QO4 (n+1) (QXE t i):=⟨f,by simp[QXE];omega,by simp[QXE];omega,by simp[QXE];omega,by simp[QXE]⟩
 have b:∀p∈ps,QO4 (n+1) p:=fun p a=>by obtain⟨g,j,k,l,u⟩:=h p a;exact⟨g,j,k,l,Om⟩
 have c:∀p∈ps++[QXE t i],QO4 (n+1) p:=fun p a=>by
  rcases W4.1 a with a|a
  ·exact b p a
  ·rw[Oe.1 a];exact r
 intro p a;unfold QQL at a;split at a
 ·rename_i q e
  split at a
  ·rename_i hj
   simp only[QQC,Wq]at hj;obtain⟨m,o,v,w,x⟩:=h q (Wp e);rcases Ou a with a|rfl
   ·exact b p a
   ·refine⟨m,o,?_,?_,by simp[QRq];omega⟩
    ·show 1<=QQU q t;unfold QQU;split<;>omega
    ·show QQU q t<=2000;have d:=hj.2.2.2.2;unfold QIV at d;split at d<;>omega
  ·exact c p a
 ·exact c p a
theorem Qbs{ps:List Poll}{t:Tag}{i:Int}:(QQL ps t i).length<=ps.length+1:=by
 unfold QQL;split
 ·split<;>simp
 ·simp
theorem planK_ok{ts:List Tag}(h:(allE ts).1=0):∀k,k<=ts.length->(planK ts k).length<=k/\∀p∈planK ts k,QO4 k p:=by
 intro k
 induction k with
 | zero=>intro _;exact⟨by simp[planK],fun p a=>by simp[planK]at a⟩
 | succ k ih=>
  intro c;obtain⟨h1,b⟩:=ih Om;have hi:(QS5 ts)[k]? = some ((QS5 ts)[k]'(by rw[QH7];omega)):=Wa _;rw[QOa hi];refine⟨by have:=Qbs (ps:=planK ts k) (t:=ts[(QS5 ts)[k]'(by rw[QH7];omega)]) (i:=(((QS5 ts)[k]'(by rw[QH7];omega)).val:Int));omega,QdL b ?_⟩;exact allE_tag h (Wa _)
theorem QYK(k:Int):Ct Pr 125 [.I k] .one [.I] [] emp (fun t Bs=>t.1=QIV k/\Bs=[]):=by
 refine sp1 (QOq _) fun B _=>?_;unfold QOq mf;dsimp only;refine QAB (fun h=>QAD ⟨?_,rfl⟩) (fun h=>QAD ⟨?_,rfl⟩)
 ·unfold QIV;rw[We h]
 ·unfold QIV;rw[Wb h]
theorem QS6(t:Tag):Ct Pr 124 [t.v] .agg [.I,.I,.I] [] emp (fun r Bs=>r.1=t.unit/\r.2.1=t.every/\r.2.2.1=t.kind/\Bs=[]):=by
 refine sp3 (QLW _ _ _ _ _ _ _ _ _ _ _ _ _ _ _ _ _ _ _) fun B _=>?_;unfold QLW mf;dsimp only;refine QAL fun b=>QAL fun a=>?_;iterate 3 (refine xgq ?_)
 iterate 3 (refine xsq ?_)
 iterate 3 (refine xgq ?_)
 exact QAd (l:=[]) (QAD ⟨rfl,rfl,rfl,rfl⟩)
theorem OPolls.nil:OPolls ⟨none,0,0⟩ [] (fun _=>none):=⟨[],rfl,fun _=>none,fun _=>none,⟨[],rfl,rfl,.inl ⟨rfl,rfl⟩⟩,⟨fun _=>none,fun _=>none,trivial,trivial,fun _=>.inl rfl,Sub.refl _,Sub.refl _⟩,fun _=>.inl rfl,Sub.refl _,Sub.refl _⟩
theorem Plan_spec(l:Sl)(ts:List Tag):Ct Pr 60 [l.v] (.tup [none,none]) [.slice,.I] [] (RAr TG l ts) (fun r Bs=>r.2.1=(allE ts).1/\Bs=[OPolls r.1 (planM ts)]):=by
 refine Qhp QVd fun B W=>?_;haveI:Fro B l TG ts:=⟨W⟩;have hn:=W.1;unfold QTf;refine QAS (CheckAll_spec l ts) rdb ?_;rintro⟨e,at_,_⟩ _ ⟨he,Z,rfl⟩;simp only at he Z;subst he Z;refine QA2 (ca2 (xif (fun h=>?_) (fun h=>?_)))
 ·have h:(allE ts).1≠0:=Si h
  have e:planM ts=[]:=by unfold planM;rw[Wb h]
  rw[e];exact QZM OPolls.nil (QAD ⟨rfl,rfl⟩)
 have h0:(allE ts).1=0:=Si h
 have hl:=allE_len h0
 have b3:planM ts=planL ts:=by unfold planM;rw[We h0]
 rw[b3,h0];refine QAS (QKa l ts hl) rdb ?_;rintro⟨s,_⟩ _ rfl;refine QAz (ca1 ?_);refine QCl s (fun X c0=>?_)
 have X:s.n=ts.length:=by rw[<-X];simp[QOA,QH7]
 refine QAf PR ?_;refine QZM (A:=Each EP [] []) trivial ?_;refine QBt (fun m (j:Sl) (x:Int) As'=>∃(k:Nat) (c:List (Poll×Sl)),x=(k:Int)/\m=ts.length - k/\k<=ts.length/\c.map Prod.fst=planK ts k/\As'=[Each EP c c,Ar PR j c,Ar I64 s (QOA ts)]) ts.length ⟨0,[],rfl,Om,Om,rfl,rfl⟩ ?_;rintro m j x As' K ⟨k,c,rfl,rfl,c5,z,rfl⟩ a8;refine QAB (fun G=>?_) (fun G=>?_)
 rotate_left
 ·obtain rfl:k=ts.length:=Om
  refine QCD 2 (QRv (Q:=OPolls j (planL ts)) 1 0 (fun g f=>⟨c,z,f⟩) (QAD ⟨rfl,rfl⟩))
 have G:k<ts.length:=Om
 obtain⟨i,hi⟩:∃i,(QS5 ts)[k]? = some i:=⟨_,Wa (by rw[QH7];exact G)⟩
 have b4:(QOA ts)[k]? = some (i.val:Int):=by simp[QOA,hi]
 have O:ts[i.val]? = some ts[i]:=Wa i.isLt;have a3:=QOa hi;obtain⟨c6,a9⟩:=planK_ok h0 k Om;have a4:=allE_tag h0 O
 have b5:c.length=(planK ts k).length:=by rw[<-z];simp
 generalize d6:ts[i]=t at O a3 a4;have d5:=QJu t;obtain⟨_,_,_,_,c7,c8,_⟩:=QWZ a4
 have next:∀(L:Sl) (y:List (Poll×Sl)),y.map Prod.fst=QQL (planK ts k) t (i.val:Int)->Ent B [Each EP y y,Ar PR L y,Ar I64 s (QOA ts)] (K L (IntKind.i64.wrap ((k:Int)+1))):=fun L y h=>by
  rw[QAE k Om];exact a8 _ _ _ _ Om ⟨k+1,y,rfl,rfl,Om,by rw[a3];exact h,rfl⟩
 refine QAM ?_;refine QAH (h1:=by simp[QOA,QH7];exact G) (h:=fun v hv=>?_)
 obtain rfl:v=(i.val:Int):=by rw[b4]at hv;cases hv;rfl
 refine QAN hv (h:=?_);refine QAH (h1:=i.isLt) (h:=fun a H=>?_)
 obtain rfl:a=t:=by rw[O]at H;cases H;rfl
 refine QAN H (h:=?_);iterate 18 (refine QAa H (h:=?_))
 refine QAL fun b=>?_;iterate 19 (refine xsq ?_)
 refine QAP ?_;iterate 20 (refine xgq ?_)
 refine QAS (QH5 a) rdb ?_;rintro⟨x,_⟩ _ ⟨hx,rfl⟩;simp only at hx;subst hx;refine QA2 (ca1 (QDK (h:=?_)));have b6:IntKind.i64.wrap (a.addr+a.width)=a.addr+a.width:=QAC _ Om Om;rw[b6];refine QCl j (fun a5 c1=>?_);refine QBh (fun As'=>As'=[Blk b a.cells,Each EP c c,Ar PR j c,Ar I64 s (QOA ts)]/\∀p,(planK ts k)[(planK ts k).length - 1]? = some p->QQC p a=false) (fun a6 Y=>?_) ?_
 rotate_left
 ·rintro As2 ⟨rfl,C⟩;iterate 5 (refine xgq ?_)
  have P:IntKind.i64.wrap (a.addr+a.width - a.addr)=a.width:=by rw[QAC _ Om Om];omega
  rw[P];refine QAL fun o=>?_;refine QAg (Q:=Ar I64 ⟨some ⟨o,0,none⟩,1,1⟩ [(i.val:Int)]) 0 (fun g f=>⟨[],QAp [(i.val:Int)] 1 rfl rfl f⟩) ?_;refine QAL fun c2=>?_;refine QE4 (E:=PR) (QXE a (i.val:Int),⟨some ⟨o,0,none⟩,1,1⟩) (hb:=Om) (h:=fun a7=>?_);refine QBO [Each EP c c,Ar I64 ⟨some ⟨o,0,none⟩,1,1⟩ [(i.val:Int)]] (Each EP (c++[(QXE a (i.val:Int),⟨some ⟨o,0,none⟩,1,1⟩)]) (c++[(QXE a (i.val:Int),⟨some ⟨o,0,none⟩,1,1⟩)])) (fun g f=>QEn (R:=EP) f) ?_;refine QAK [Each EP (c++[(QXE a (i.val:Int),⟨some ⟨o,0,none⟩,1,1⟩)]) (c++[(QXE a (i.val:Int),⟨some ⟨o,0,none⟩,1,1⟩)]),Ar PR a7 (c++[(QXE a (i.val:Int),⟨some ⟨o,0,none⟩,1,1⟩)]),Ar I64 s (QOA ts)] (next _ _ ?_);rw[Uw,z];unfold QQL;split
  ·rename_i p u
   rw[C p u];simp
  ·simp
 ·cases V:c.length with
  | zero=>
   have b7:planK ts k=[]:=Zw.1 Om;refine QBH (by rw[<-a5,V];decide) (Y _ ⟨rfl,fun p u=>by rw[b7]at u;simp at u⟩)
  | succ m=>
   have b8:IntKind.i64.wrap ((j.n:Int) - 1)=(m:Int):=by rw[QAC _ Om Om];omega
   rw[b8];refine QCC (by simp) ?_;refine QAH (h1:=Om) (h:=fun q d=>?_);obtain⟨p,N⟩:=q
   have S:(planK ts k)[(planK ts k).length - 1]? = some p:=by
    rw[<-z,O3,V,Nat.add_sub_cancel,Ol,d];rfl
   obtain⟨c9,c',d0,d1,o5⟩:=a9 p (Wp S);refine QAP (QAO ?_);refine QAa d (h:=QAO ?_);refine QAa d (h:=QAP (QAM (QAO ?_)));refine QAN d (h:=QAO ?_);refine QAa d (h:=QAO ?_);refine QAa d (h:=?_);iterate 19 (refine xgq ?_)
   refine QAS (QS6 a) rdb ?_;rintro⟨a',d2,d3,_⟩ _ ⟨D,a0,a1,rfl⟩;simp only at D a0 a1;subst D a0 a1;refine QA2 (ca3 ?_);refine QWB d (h:=?_);refine QWB d (h:=?_);refine QOC d (h:=?_)
   (try dsimp only)
   have P:IntKind.i64.wrap (a.addr+a.width - p.addr)=a.addr+a.width - p.addr:=QAC _ Om Om;have b9:IntKind.i64.wrap (p.addr+p.count)=p.addr+p.count:=QAC _ Om Om;have b':IntKind.i64.wrap (p.addr+p.count+8)=p.addr+p.count+8:=QAC _ Om Om;rw[P];have C:∀{As':List HP},As'=[Blk b a.cells,Each EP c c,Ar PR j c,Ar I64 s (QOA ts)]->QQC p a=false->Ent B As' a6:=fun e hj=>Y _ ⟨e,fun c3 u=>by rw[S]at u;cases u;exact hj⟩;refine xif (fun f=>xgq (QAO ?_)) (fun f=>QBH rfl (QBH rfl (C rfl ?_)))
   rotate_left
   ·unfold QQC;rw[Wx];rintro⟨b0,b1,b2,_⟩;rw[b0,b1,b2]at f;simp at f
   have T:p.unit=a.unit/\p.every=a.every/\p.kind=a.kind:=Si f
   refine QAa d (h:=QAO ?_);refine QAa d (h:=?_)
   (try dsimp only)
   rw[b9,b'];refine xif (fun M=>QAO ?_) (fun M=>QBH rfl (C rfl ?_))
   rotate_left
   ·unfold QQC;rw[Wx];rintro⟨_,_,_,d4,_⟩;simp at M;omega
   refine QAa d (h:=?_);refine QAS (QYK _) rdb ?_;rintro⟨a',_⟩ _ ⟨D,rfl⟩;simp only at D;subst D;refine QA2 (ca1 ?_);try dsimp only
   refine xif (fun J=>QAO ?_) (fun J=>C rfl ?_)
   rotate_left
   ·unfold QQC;rw[Wx];rintro⟨_,_,_,_,a2⟩;unfold QQU at a2;simp only[Wx]at J;exact J a2
   have hj:QQC p a=true:=by
    unfold QQC;rw[Wq];exact⟨T.1,T.2.1,T.2.2,Si M,by unfold QQU;simpa using J⟩
   refine QAa d (h:=?_)
   (try dsimp only)
   refine QAL fun c4=>?_;refine Qc1 2 [Ar I64 N p.tags,Each EP (c.eraseIdx m) (c.eraseIdx m)] (fun g f=>QCA (R:=EP) f d d) (QBK ?_);refine QE4 (E:=I64) (i.val:Int) (hb:=Om) (h:=fun w=>QAO ?_);refine QDB (({ p with count:=QQU p a }:Poll),N) d rfl Dc rfl (h:=QAO ?_)
   have U:m<c.length:=Om
   refine QDB (E:=PR) (QRq p a (i.val:Int),w) (x:=(({ p with count:=QQU p a }:Poll),N)) (by simp[U]) rfl Dc rfl (h:=?_);rw[Zc];refine QBO [Ar I64 w (p.tags++[(i.val:Int)]),Each EP (c.eraseIdx m) (c.eraseIdx m)] (Each EP (c.set m (QRq p a (i.val:Int),w)) (c.set m (QRq p a (i.val:Int),w))) (fun g f=>QC9 (R:=EP) U U f) ?_;refine QAK [Each EP (c.set m (QRq p a (i.val:Int),w)) (c.set m (QRq p a (i.val:Int),w)),Ar PR j (c.set m (QRq p a (i.val:Int),w)),Ar I64 s (QOA ts)] (next _ _ ?_);unfold QQL;rw[S]
   (try simp only)
   rw[We hj,Le,z,<-b5,V,Nat.add_sub_cancel]
theorem ca6{a b c d e f:Sh}{K:a.ty->b.ty->c.ty->d.ty->e.ty->f.ty->WP}{g:a.ty}{i:b.ty}{j:c.ty}{k:d.ty}{l:e.ty}{m:f.ty}{v:Unit}(h:Ent B As (K g i j k l m)):Ent B As (Cur.app [a,b,c,d,e,f] K (g,i,j,k,l,m,v)):=h
theorem QkE{P:Program}{f:FuncId}{args:Ad}{rs:Rs}{a b d e g i j:Sh}{pre:List HP}{rd:HP}{post:Tup [a,b,d,e,g,i,j]->List HP->Prop}{φ:(a.ty->b.ty->d.ty->e.ty->g.ty->i.ty->j.ty->WP)->WP}(c:∀{K:a.ty->b.ty->d.ty->e.ty->g.ty->i.ty->j.ty->WP}{w:World},φ K w->QAX P f args rs [a,b,d,e,g,i,j] K w)
  (h:∀B:QBJ,rd (frz B.W B.h0)->Ent B pre (φ fun k l m n o p q=>Ret B post (k,l,m,n,o,p,q,()))):Ct P f args rs [a,b,d,e,g,i,j] pre rd post:=QAm (ss:=[a,b,d,e,g,i,j]) c h
theorem ca7{a b c d e f g:Sh}{K:a.ty->b.ty->c.ty->d.ty->e.ty->f.ty->g.ty->WP}{i:a.ty}{j:b.ty}{k:c.ty}{l:d.ty}{m:e.ty}{n:f.ty}{o:g.ty}{v:Unit}(h:Ent B As (K i j k l m n o)):Ent B As (Cur.app [a,b,c,d,e,f,g] K (i,j,k,l,m,n,o,v)):=h
abbrev nilS:Sl:=⟨none,0,0⟩
def askE(k addr count:Int):Int:=if addr<0\/addr>65535 then 21 else if count<1\/count>QIV k then 22 else if addr+count>65536 then 21 else 0
def QUx(p:Poll):Int:=if p.kind<1\/p.kind>4 then 28 else askE p.kind p.addr p.count
def askR(p:Poll):Int×Int×Int:=if QUx p=0 then (p.kind,p.addr,p.count) else (0,0,0)
theorem kinds{k:Int}(h:1<=k/\k<=4):k=1\/k=2\/k=3\/k=4:=Om
theorem QJo(k addr count:Int)(c:1<=k/\k<=4):Ct Pr 163 [.agg #[.I k,.I addr,.I count,nilS.v,nilS.v,nilS.v]] .one [.I] [] emp (fun t Bs=>t.1=askE k addr count/\Bs=[]):=by
 have e:Go.Cx.askE k addr count 0 0 []=askE k addr count:=by
  rcases kinds c with rfl|rfl|rfl|rfl <;> (unfold Go.Cx.askE askE;simp[QAv,QLa,QWx,QIV])
 rw[<-e];exact fun w g a b _=>QHq k addr count nilS nilS nilS [] w g a b ⟨rfl,rfl,fun h=>absurd h (Zu 0)⟩
theorem Ask_spec(p:Poll)(j:Sl):Ct Pr 329 [.agg #[.I p.unit,.I p.kind,.I p.addr,.I p.count,.I p.every,j.v]] (.tup [some 6,none]) [.I,.I,.I,.slice,.slice,.slice,.I] [] emp
  (fun t Bs=>t=((askR p).1,(askR p).2.1,(askR p).2.2,nilS,nilS,nilS,QUx p,())/\Bs=[]):=by
 refine sp7 (QVt _ _ _ _ _ _) fun B _=>?_;unfold QVt mf;dsimp only;refine QAL fun b=>QAL fun k=>?_
 have bad:(p.kind<1\/p.kind>4)->QUx p=28/\askR p=(0,0,0):=fun h=>by
  have e:QUx p=28:=by unfold QUx;rw[We h]
  exact⟨e,by unfold askR;rw[e];rfl⟩
 have c:(p.kind<1\/p.kind>4)->∀{As:List HP},Ent B As (Ret B (ss:=[.I,.I,.I,.slice,.slice,.slice,.I]) (fun t Bs=>t=((askR p).1,(askR p).2.1,(askR p).2.2,nilS,nilS,nilS,QUx p,())/\Bs=[]) (0,0,0,nilS,nilS,nilS,28,())):=fun h As=>by
  obtain⟨d,f⟩:=bad h;rw[d,f];exact QAd (l:=[]) (QAD ⟨rfl,rfl⟩)
 refine xgq (QAM (xif (fun h=>QCC rfl ?_) (fun h=>xgq (xif (fun a=>?_) (fun a=>?_)))))
 ·iterate 6 (refine xsq ?_)
  iterate 3 (refine xgq ?_)
  iterate 3 (refine QAh (s:=.slice) (x:=nilS) (h:=?_))
  exact c (.inl (Si h))
 ·iterate 6 (refine xsq ?_)
  iterate 3 (refine xgq ?_)
  iterate 3 (refine QAh (s:=.slice) (x:=nilS) (h:=?_))
  exact c (.inr (Si a))
 have g:1<=p.kind/\p.kind<=4:=by simp at h a;omega
 have i:QUx p=askE p.kind p.addr p.count:=by unfold QUx;rw[Wb Om]
 iterate 3 (refine xgq ?_)
 refine QAL fun m=>?_;iterate 6 (refine xsq ?_)
 iterate 3 (refine xgq ?_)
 iterate 3 (refine QAh (s:=.slice) (x:=nilS) (h:=?_))
 refine QAS (QJo _ _ _ g) rdb ?_;rintro⟨x,_⟩ _ ⟨hx,rfl⟩;simp only at hx;rw[<-i]at hx;subst hx;refine QA2 (ca1 (xif (fun h0=>?_) (fun h0=>?_)))
 ·have h0:¬QUx p=0:=Si h0
  have e:askR p=(0,0,0):=by unfold askR;rw[Wb h0]
  iterate 6 (refine xsq ?_)
  iterate 3 (refine xgq ?_)
  iterate 3 (refine QAh (s:=.slice) (x:=nilS) (h:=?_))
  rw[e];exact QAd (l:=[]) (QAD ⟨rfl,rfl⟩)
 ·have h0:QUx p=0:=Si h0
  have e:askR p=(p.kind,p.addr,p.count):=by unfold askR;rw[We h0]
  iterate 3 (refine xgq ?_)
  iterate 3 (refine QAh (s:=.slice) (x:=nilS) (h:=?_))
  iterate 6 (refine xsq ?_)
  iterate 3 (refine xgq ?_)
  iterate 3 (refine QAh (s:=.slice) (x:=nilS) (h:=?_))
  rw[e,h0];exact QAd (l:=[]) (QAD ⟨rfl,rfl⟩)
def replyE(k addr count exc:Int)(a b c:Nat):Int:=
 if askE k addr count≠0 then askE k addr count
 else if exc≠0 then (if exc<1\/exc>127 then 3 else if a>0\/b>0\/c>0 then 23 else 0)
 else if c>0\/(k<=2/\b>0)\/(2<k/\a>0) then 23
 else if (k<=2/\(a:Int)≠count)\/(2<k/\(b:Int)≠count) then 22 else 0
theorem QHg(k exc:Int)(a c d:Sl)(e:1<=k/\k<=4):Ct Pr 253 [.I k,.agg #[.I exc,a.v,c.v,d.v]] .one [.bool] [] emp
  (fun t Bs=>t.1=decide (d.n>0\/(k<=2/\c.n>0)\/(2<k/\a.n>0))/\Bs=[]):=by
 refine sp1 (QEc _ _ _ _ _) fun B _=>?_;unfold QEc mf;dsimp only;rcases kinds e with rfl|rfl|rfl|rfl
 all_goals
  refine QAL fun b=>QAP ?_;repeat' (first|refine QAM ?_|refine QCC Dc ?_|refine QBH Dc ?_|refine xgq ?_)
  refine QAd (l:=[]) (QAD ⟨?_,rfl⟩);rw[Oo];simp only[Oz,Wq];omega
theorem QHr(k addr count exc:Int)(a c d:Sl)(e:1<=k/\k<=4):Ct Pr 254 [.agg #[.I k,.I addr,.I count,nilS.v,nilS.v,nilS.v],.agg #[.I exc,a.v,c.v,d.v]] .one [.bool] [] emp
  (fun t Bs=>(!t.1)=decide ((k<=2/\(a.n:Int)≠count)\/(2<k/\(c.n:Int)≠count))/\Bs=[]):=by
 refine sp1 (QEd _ _ _ _ _ _ _ _ _ _) fun B _=>?_;unfold QEd mf;dsimp only;rcases kinds e with rfl|rfl|rfl|rfl
 all_goals
  refine QAL fun b=>QAL fun f=>?_;repeat' (first|refine QAM ?_|refine QCC Dc ?_|refine QBH Dc ?_|refine xgq ?_)
  refine QAd (l:=[]) (QAD ⟨?_,rfl⟩);rw[Oo];simp
theorem QMB(k addr count exc:Int)(c d e:Sl)(i:1<=k/\k<=4):Ct Pr 164 [.agg #[.I k,.I addr,.I count,nilS.v,nilS.v,nilS.v],.agg #[.I exc,c.v,d.v,e.v]] .one [.I] [] emp
  (fun t Bs=>t.1=replyE k addr count exc c.n d.n e.n/\Bs=[]):=by
 refine sp1 (QGa _ _ _ _ _ _ _ _ _ _) fun B _=>?_;have f:∀{x:Int}{As:List HP},x=replyE k addr count exc c.n d.n e.n->Ent B As (Ret B (ss:=[.I]) (fun t Bs=>t.1=replyE k addr count exc c.n d.n e.n/\Bs=[]) (x,())):=fun h=>QAd (l:=[]) (QAD ⟨h,rfl⟩);unfold QGa mf;dsimp only;refine QAL fun b=>QAL fun j=>?_;iterate 3 (refine xgq ?_)
 iterate 3 (refine QAh (s:=.slice) (x:=nilS) (h:=?_))
 refine QAS (QJo k addr count i) rdb ?_;rintro⟨x,_⟩ _ ⟨hx,rfl⟩;simp only at hx;subst hx;refine QA2 (ca1 (xif (fun h0=>f ?_) (fun h0=>?_)))
 ·unfold replyE;rw[We (Si h0)]
 have h0:¬askE k addr count≠0:=Si h0
 refine xgq (xif (fun h1=>?_) (fun h1=>?_))
 ·have h1:exc≠0:=Si h1
  repeat' (first|refine QAM ?_|refine QCC rfl ?_|refine QBH rfl ?_|refine xgq ?_|refine xif (fun a=>?_) (fun a=>?_))
  all_goals
   refine f ?_
   simp only[Wq,Wx]at *
   unfold replyE;rw[Wb h0,We h1];first|rw[We Om]|rw[Wb Om,We Om]|rw[Wb Om,Wb Om]
 have h1:¬exc≠0:=Si h1
 iterate 5 (refine xgq ?_)
 refine QAS (QHg k exc c d e i) rdb ?_;rintro⟨x,_⟩ _ ⟨hx,rfl⟩;simp only at hx;subst hx;refine QA2 (ca1 (QAB (fun a=>f ?_) (fun a=>?_)))
 ·unfold replyE;rw[Wb h0,Wb h1,We a]
 iterate 3 (refine xgq ?_)
 iterate 3 (refine QAh (s:=.slice) (x:=nilS) (h:=?_))
 iterate 4 (refine xgq ?_)
 refine QAS (QHr k addr count exc c d e i) rdb ?_;rintro⟨x,_⟩ _ ⟨hx,rfl⟩;simp only at hx;refine QA2 (ca1 ?_);rw[hx];refine QAB (fun g=>f ?_) (fun g=>f ?_)
 ·unfold replyE;rw[Wb h0,Wb h1,Wb a,We g]
 ·unfold replyE;rw[Wb h0,Wb h1,Wb a,Wb g]
def U16:Enc UInt16:=⟨fun x=>[.int .u16 x.toNat],1,fun _=>rfl,fun x v h=>by simp at h;subst h;rfl,Dc,0⟩
def rawN(wide swap sgn:Bool)(d:List UInt16):Int:=
 let a:Int:=((d[0]?.getD 0).toNat:Int)
 let b:Int:=((d[1]?.getD 0).toNat:Int)
 let n:Int:=if swap=true then a+b*65536 else if wide=true then a*65536+b else a
 let c:Int:=if wide=true then 4294967296 else 65536
 if sgn=true/\2*n>=c then n - c else n
theorem QS2(x:UInt16):(x.toNat:Int)<65536:=by have:=x.toNat_lt;omega
theorem QJi(wide sgn swap:Bool)(mul div add:Int):Ct Pr 511 [.agg #[.bool wide,.bool sgn,.bool swap,.I mul,.I div,.I add]] .one [.I] [] emp (fun t Bs=>t.1=(if wide=true then 4294967296 else 65536)/\Bs=[]):=by
 refine sp1 (QPU _ _ _ _ _ _) fun B _=>?_;unfold QPU mf;dsimp only;refine QAL fun b=>QAh (h:=xif (fun h=>QAd (l:=[]) (QAD ⟨by rw[We h],rfl⟩)) (fun h=>QAd (l:=[]) (QAD ⟨by rw[h];rfl,rfl⟩)))
theorem e16:(2:Int) ^ (min (Int.toNat 16) 64)=65536:=Dc
theorem QWA{c:List UInt16}(h:c.length=2):∃a b,c=[a,b]:=by
 match c,h with
 | [a,b],_=>exact⟨a,b,rfl⟩
theorem Qhz{b:List UInt16}(h:b.length=1):∃a,b=[a]:=by
 match b,h with
 | [a],_=>exact⟨a,rfl⟩
theorem QcT(wide sgn swap:Bool)(mul div add:Int)(s:Sl)(f:List UInt16)(h0:QCk wide swap mul div add=0)(hl:f.length=if wide=true then 2 else 1) :
  Ct Pr 487 [.agg #[.bool wide,.bool sgn,.bool swap,.I mul,.I div,.I add],s.v] (.tup [none,none]) [.I,.I] [] (RAr U16 s f) (fun t Bs=>t.1=rawN wide swap sgn f/\t.2.1=0/\Bs=[]):=by
 refine sp2 (QSb _ _ _ _ _ _ _) fun B k=>?_;haveI:Fro B s U16 f:=⟨k⟩;have hn:=k.1;have e:∀{x:Int}{As:List HP},x=rawN wide swap sgn f->Ent B As (Ret B (ss:=[.I,.I]) (fun t Bs=>t.1=rawN wide swap sgn f/\t.2.1=0/\Bs=[]) (x,0,())):=fun h=>QAd (l:=[]) (QAD ⟨h,rfl,rfl⟩);unfold QSb mf;dsimp only;refine QAL fun b=>?_;iterate 6 (refine xgq ?_)
 refine QAS (QFD wide sgn swap mul div add) rdb ?_;rintro⟨x,_⟩ _ ⟨hx,rfl⟩;simp only at hx;rw[h0]at hx;subst hx;refine QA2 (ca1 (QBH rfl ?_))
 cases wide with
 | false=>
  have r:swap=false:=by
   cases swap with
   | false=>rfl
   | true=>simp[QCk]at h0
  subst r;obtain⟨a,rfl⟩:=Qhz (Si hl);have u:=QS2 a
  have hn:s.n=1:=Si hn.symm
  refine QAh (h:=QAM (QBH rfl (QAh (h:=QBH (by rw[hn];rfl) ?_))));refine Qb7 (E:=U16) (h0:=Dc) (h1:=by simp) (h:=fun x hx=>?_)
  obtain rfl:a=x:=Si hx
  refine QAN hx (h:=xgq (QAM (QBH rfl (xgq (QAM (QBH rfl (xgq (QAM ?_))))))));have c:IntKind.i64.wrap (a.toNat:Int)=a.toNat:=QAC _ Om Om;rw[c];refine xif (fun h1=>?_) (fun h1=>QBH rfl (e ?_))
  ·iterate 6 (refine xgq ?_)
   refine QAS (QJi _ _ _ _ _ _) rdb ?_;rintro⟨x,_⟩ _ ⟨hx,rfl⟩;simp only at hx;subst hx;refine QA2 (ca1 (QBA Dc (QAM (xif (fun d=>?_) (fun d=>e ?_)))))
   ·iterate 6 (refine xgq ?_)
    refine QAS (QJi _ _ _ _ _ _) rdb ?_;rintro⟨x,_⟩ _ ⟨hx,rfl⟩;simp only at hx;subst hx;refine QA2 (ca1 (e ?_));have d:(a.toNat:Int)>=32768:=Ox d;simp only[Wi,Oa];rw[QAC _ Om Om];simp only[rawN,h1,Ov,Uy,Wi,Oa,true_and];rw[We Om]
   ·have d:¬(a.toNat:Int)>=32768:=Uv d;simp only[rawN,h1,Ov,Uy,Wi,Oa,true_and];rw[Wb Om]
  ·simp[rawN,h1]
 | true=>
  obtain⟨a,c,rfl⟩:=QWA (Si hl);have u:=QS2 a;have z:=QS2 c
  have hn:s.n=2:=Si hn.symm
  refine QAh (h:=QAM (QBH (by rw[hn];rfl) (xgq (QBH rfl ?_))));refine Qb7 (E:=U16) (h0:=Dc) (h1:=by simp) (h:=fun x hx=>?_)
  obtain rfl:a=x:=Si hx
  have o:IntKind.i64.wrap (a.toNat:Int)=a.toNat:=QAC _ Om Om;have p:IntKind.i64.wrap (c.toNat:Int)=c.toNat:=QAC _ Om Om;refine QAN hx (h:=xgq ?_);refine QAV (fun(x:Int) As'=>As'=[Blk b [.bool true,.bool sgn,.bool swap,.I mul,.I div,.I add]]/\x=if swap=true then (a.toNat:Int)+c.toNat*65536 else (a.toNat:Int)*65536+c.toNat) (fun w m=>?_) ?_
  ·refine xif (fun h1=>?_) (fun h1=>QAh (h:=QAM (QCC rfl (QBA Dc ?_))))
   ·refine Qb7 (E:=U16) (h0:=Dc) (h1:=by simp) (h:=fun y g=>?_)
    obtain rfl:c=y:=Si g
    refine QAN g (h:=QBA Dc (m _ _ ⟨rfl,?_⟩));rw[o,p,e16,QAC ((c.toNat:Int)*65536) Om Om,QAC _ Om Om,We h1]
   ·refine Qb7 (E:=U16) (h0:=Dc) (h1:=by simp) (h:=fun y g=>?_)
    obtain rfl:c=y:=Si g
    refine QAN g (h:=m _ _ ⟨rfl,?_⟩);rw[o,p,e16,QAC ((a.toNat:Int)*65536) Om Om,QAC _ Om Om,Wb (by rw[h1];simp)]
  rintro n0 As2 ⟨rfl,i⟩;obtain⟨n,q⟩:∃n:Int,n=n0:=⟨n0,rfl⟩;subst q
  have i:n=if swap=true then (a.toNat:Int)+c.toNat*65536 else (a.toNat:Int)*65536+c.toNat:=i
  have A:0<=n/\n<4294967296:=by rw[i];split<;>omega
  have j:rawN true swap sgn [a,c]=if sgn=true/\2*n>=4294967296 then n - 4294967296 else n:=by
   simp only[rawN,Ov,Kw,Uy,O7,<-i]
  refine xgq (QAM (xif (fun h1=>?_) (fun h1=>QBH rfl (e ?_))))
  ·iterate 6 (refine xgq ?_)
   refine QAS (QJi _ _ _ _ _ _) rdb ?_;rintro⟨x,_⟩ _ ⟨hx,rfl⟩;simp only at hx;subst hx;refine QA2 (ca1 (QBA Dc (QAM (xif (fun d=>?_) (fun d=>e ?_)))))
   ·iterate 6 (refine xgq ?_)
    refine QAS (QJi _ _ _ _ _ _) rdb ?_;rintro⟨x,_⟩ _ ⟨hx,rfl⟩;simp only at hx;subst hx;refine QA2 (ca1 (e ?_));have d:n>=2147483648:=Ox d;simp only[O7];rw[QAC _ Om Om,j,We ⟨h1,Om⟩]
   ·have d:¬n>=2147483648:=Uv d;rw[j,Wb (by rintro⟨_,h⟩;omega)]
  ·rw[j,Wb (by rw[h1];simp)]
theorem QYh(wide swap sgn:Bool)(a:List UInt16) : -2147483648<=rawN wide swap sgn a/\rawN wide swap sgn a<=4294967295/\(swap=true->wide=true->True)\/(swap=true/\wide=false):=by
 have b:=QS2 (a[0]?.getD 0);have c:=QS2 (a[1]?.getD 0);cases swap<;>cases wide<;>cases sgn<;>simp only[rawN,O7,Wi,Oa,true_and,false_and] <;> first|(left;refine⟨?_,?_,fun _ _=>trivial⟩ <;> (try split)<;>omega)|(right;trivial)
def nearN(n d:Int):Int:=if n<0 then -((2*(-n)+d) / (2*d)) else (2*n+d) / (2*d)
def clampV(x:Int):Int:=if x < -1099511627776 then -1099511627776 else if x>1099511627776 then 1099511627776 else x
def valN(mul div add a:Int):Int:=clampV (nearN (a*mul) div+add)
theorem QHw{n d:Int}(a:1<=d)(hn:0<=n):0<=(2*n+d) / (2*d)/\(2*n+d) / (2*d)<=2*n+d:=
 ⟨Int.ediv_nonneg Om Om,Int.ediv_le_self _ Om⟩
theorem QO7(n d:Int)(hn:0<=n)(b:n<=1152921504606846976)(a:1<=d)(c:d<=1000000):Ct Pr 512 [.I n,.I d] .one [.I] [] emp (fun t Bs=>t.1=nearN n d/\Bs=[]):=by
 refine sp1 (QEa _ _) fun B _=>?_;unfold QEa mf;dsimp only;have hb:=QHw a hn;refine QBH (Si hn) ?_;rw[QAC (2*d) Om Om,QAC (2*n) Om Om,QAC (2*n+d) Om Om,Um Om,QAC _ Om Om];refine QBA Om (QAD ⟨?_,rfl⟩);unfold nearN;rw[Wb Om]
theorem QZY(n d:Int)(hn : -1152921504606846976<=n)(c:n<=1152921504606846976)(a:1<=d)(b:d<=1000000):Ct Pr 512 [.I n,.I d] .one [.I] [] emp (fun t Bs=>t.1=nearN n d/\Bs=[]):=by
 by_cases h:0<=n
 ·exact QO7 n d h c a b
 refine sp1 (QEa _ _) fun B _=>?_;unfold QEa mf;dsimp only;have hb:=QHw a (show 0<=-n by omega);refine QCC (by simp;omega) ?_;rw[QAC (0 - n) Om Om];refine QAS (QO7 (0 - n) d Om Om a b) rdb ?_;rintro⟨x,_⟩ _ ⟨hx,rfl⟩;simp only at hx;subst hx;refine QA2 (ca1 (QAD ⟨?_,rfl⟩));show IntKind.i64.wrap (0 - nearN (0 - n) d)=nearN n d;unfold nearN;rw[Wb Om,We Om,show (0 - n) = -n by omega,QAC _ Om Om];omega
theorem QW1{wide swap:Bool}{mul div add:Int}(h:QCk wide swap mul div add=0) : -1000000<=mul/\mul<=1000000/\1<=div/\div<=1000000/\-1099511627776<=add/\add<=1099511627776/\(swap=true->wide=true):=by
 unfold QCk at h;split at h
 ·cases h
 ·rename_i b
  refine⟨Om,Om,Om,Om,Om,Om,fun a=>?_⟩
  cases wide with
  | true=>rfl
  | false=>exact absurd (.inr (.inr (.inr (.inr (.inr (.inr (.inr ⟨a,rfl⟩))))))) b
theorem QYz{a mul:Int}(h1 : -2147483648<=a)(b:a<=4294967295)(c : -1000000<=mul)(d:mul<=1000000) : -4294967295000000<=a*mul/\a*mul<=4294967295000000:=by
 have e:(a*mul).natAbs=a.natAbs*mul.natAbs:=Int.natAbs_mul _ _;have:a.natAbs*mul.natAbs<=4294967295*1000000:=Nat.mul_le_mul Om Om;omega
theorem QU3{n d:Int}(h1 : -4294967295000000<=n)(b:n<=4294967295000000)(a:1<=d)(c:d<=1000000) : -9000000000000000<=nearN n d/\nearN n d<=9000000000000000:=by
 unfold nearN;split
 ·have:=QHw a (show 0<=-n by omega);omega
 ·have:=QHw a (show 0<=n by omega);omega
theorem QXw(wide sgn swap:Bool)(mul div add a:Int)(h0:QCk wide swap mul div add=0)(j : -2147483648<=a)(k:a<=4294967295) :
  Ct Pr 488 [.agg #[.bool wide,.bool sgn,.bool swap,.I mul,.I div,.I add],.I a] (.tup [none,none]) [.I,.I] [] emp (fun t Bs=>t.1=valN mul div add a/\t.2.1=0/\Bs=[]):=by
 refine sp2 (QME _ _ _ _ _ _ _) fun B _=>?_;obtain⟨e,f,c,d,m,a2,_⟩:=QW1 h0;obtain⟨g,i⟩:=QYz j k e f;obtain⟨n,o⟩:=QU3 g i c d;unfold QME mf;dsimp only;refine QAL fun b=>?_;iterate 6 (refine xgq ?_)
 refine QAS (QFD wide sgn swap mul div add) rdb ?_;rintro⟨x,_⟩ _ ⟨hx,rfl⟩;simp only at hx;rw[h0]at hx;subst hx;refine QA2 (ca1 (QBH rfl ?_));refine QAS (QBx a (-2147483648) 4294967295 Dc) rdb ?_;rintro⟨x,_⟩ _ ⟨hx,_,rfl⟩;simp only at hx;refine QA2 (ca1 ?_);rw[hx];refine QBH (by simp;omega) (QAP ?_);iterate 3 (refine xgq ?_)
 rw[QAC (a*mul) Om Om];refine QAS (QZY (a*mul) div Om Om c d) rdb ?_;rintro⟨x,_⟩ _ ⟨hx,rfl⟩;simp only at hx;subst hx;refine QA2 (ca1 (QDK (h:=?_)));rw[QAC (nearN (a*mul) div+add) Om Om];refine QAS (QBx (nearN (a*mul) div+add) (-1099511627776) 1099511627776 Dc) rdb ?_;rintro⟨x,_⟩ _ ⟨_,hx,rfl⟩;simp only at hx;subst hx;exact QA2 (ca1 (QAd (l:=[]) (QAD ⟨rfl,rfl,rfl⟩)))
def withinT(t:Tag)(p:Poll):Bool:=decide (t.unit=p.unit/\t.kind=p.kind/\p.addr<=t.addr/\t.addr+t.width<=p.addr+p.count)
theorem QRu(t:Tag)(p:Poll)(g:Sl)(i:tagE t=0)(h1:0<=p.addr)(n:p.addr<=65535)(o:0<=p.count)(q:p.count<=2000):Ct Pr 430 [t.v,.agg #[.I p.unit,.I p.kind,.I p.addr,.I p.count,.I p.every,g.v]] .one [.bool] [] emp
  (fun r Bs=>r.1=withinT t p/\Bs=[]):=by
 refine sp1 (QMT _ _ _ _ _ _ _ _ _ _ _ _ _ _ _ _ _ _ _ _ _ _ _ _ _) fun B _=>?_;have d:∀{x:Bool}{As:List HP},x=withinT t p->Ent B As (Ret B (ss:=[.bool]) (fun r Bs=>r.1=withinT t p/\Bs=[]) (x,())):=fun h=>QAd (l:=[]) (QAD ⟨h,rfl⟩)
 have f:¬(t.unit=p.unit/\t.kind=p.kind/\p.addr<=t.addr/\t.addr+t.width<=p.addr+p.count)->false=withinT t p:=fun h=>by unfold withinT;symm;exact Ze h
 have m:=QJu t;obtain⟨_,_,_,_,k,a2,_⟩:=QWZ i;unfold QMT mf;dsimp only;refine QAL fun b=>QAL fun j=>QAP (QAM (xgq (xgq ?_)));refine xif (fun a=>xgq (xgq ?_)) (fun a=>QBH rfl (QBH rfl (d (f ?_))))
 ·have a:t.unit=p.unit:=Si a
  refine xif (fun c=>xgq (xgq ?_)) (fun c=>QBH rfl (d (f ?_)))
  ·have c:t.kind=p.kind:=Si c
   refine QAB (fun e=>?_) (fun e=>d (f ?_))
   ·iterate 22 (refine xgq ?_)
    refine QAS (QH5 t) rdb ?_;rintro⟨x,_⟩ _ ⟨hx,rfl⟩;simp only at hx;subst hx;refine QA2 (ca1 ?_);iterate 3 (refine QDK (h:=?_))
    rw[QAC (t.addr+t.width) Om Om,QAC (p.addr+p.count) Om Om];refine d ?_;unfold withinT;exact decide_eq_decide.2 ⟨fun h=>⟨a,c,e,h⟩,fun h=>h.2.2.2⟩
   ·rintro⟨_,_,h,_⟩;exact e h
  ·rintro⟨_,h,_⟩;rw[h]at c;simp at c
 ·have a:¬t.unit=p.unit:=Si a
  rintro⟨h,_⟩;exact a h
def valueM(t:Tag)(p:Poll)(on:List Bool)(a:List UInt16):Int:=
 if t.kind<=2 then (if (on[(t.addr - p.addr).toNat]?.getD false)=true then 1 else 0)
 else valN t.mul t.div t.add (rawN t.wide t.swap t.sgn ((a.take ((t.addr - p.addr).toNat+t.width.toNat)).drop (t.addr - p.addr).toNat))
theorem QMs{t:Tag}{p:Poll}(h:withinT t p=true):t.unit=p.unit/\t.kind=p.kind/\p.addr<=t.addr/\t.addr+t.width<=p.addr+p.count:=by simpa [withinT]using h
theorem Qgn{wide swap sgn:Bool}{mul div add:Int}(h:QCk wide swap mul div add=0)(a:List UInt16) : -2147483648<=rawN wide swap sgn a/\rawN wide swap sgn a<=4294967295:=by
 rcases QYh wide swap sgn a with h1|⟨h1,b⟩
 ·exact⟨h1.1,h1.2.1⟩
 ·have:=(QW1 h).2.2.2.2.2.2 h1;rw[b]at this;cases this
theorem QXm(t:Tag)(p:Poll)(H:Sl)(exc:Int)(u d J:Sl)(on:List Bool)(a:List UInt16)(K:tagE t=0)(L:withinT t p=true)(h1:0<=p.addr)(V:p.addr<=65535)(W:0<=p.count)(X:p.count<=2000)(hc:d.n<=d.c)
  (w:t.kind<=2->(on.length:Int)=p.count) (z:2<t.kind->(a.length:Int)=p.count) :
  Ct Pr 431 [t.v,.agg #[.I p.unit,.I p.kind,.I p.addr,.I p.count,.I p.every,H.v],.agg #[.I exc,u.v,d.v,J.v]] .one [.I] [] ((RAr BL u on).and (RAr U16 d a))
  (fun r Bs=>r.1=valueM t p on a/\Bs=[]):=by
 refine sp1 (QPN _ _ _ _ _ _ _ _ _ _ _ _ _ _ _ _ _ _ _ _ _ _ _ _ _ _ _ _ _) fun B i=>?_;haveI:Fro B u BL on:=⟨i.1⟩;haveI:Fro B d U16 a:=⟨i.2⟩;have Y:=i.2.1;obtain⟨O,P,Q,R⟩:=QMs L;have Z:=QJu t;obtain⟨_,_,S,T,U,a2,_,_,o⟩:=QWZ K;have q:∀{x:Int}{As:List HP},x=valueM t p on a->Ent B As (Ret B (ss:=[.I]) (fun r Bs=>r.1=valueM t p on a/\Bs=[]) (x,())):=fun h=>QAd (l:=[]) (QAD ⟨h,rfl⟩);have E:IntKind.i64.wrap (t.addr - p.addr)=t.addr - p.addr:=QAC _ Om Om;unfold QPN mf;dsimp only;refine QAL fun b=>QAL fun M=>QAL fun N=>?_;iterate 3 (refine xgq ?_)
 rw[E];refine QAB (fun k=>?_) (fun k=>?_)
 ·have j:t.kind<=2:=k;have w:=w j;refine xgq ?_;refine Qb7 (h0:=Om) (h1:=Om) (h:=fun x hx=>?_)
  have e:valueM t p on a=if x=true then 1 else 0:=by unfold valueM;rw[We j,hx];rfl
  refine QAN hx (h:=xif (fun m=>q ?_) (fun m=>q ?_))
  ·rw[e,We m]
  ·rw[e,m];rfl
 ·have j:¬t.kind<=2:=k;have z:=z Om;refine QAP ?_;iterate 26 (refine xgq ?_)
  refine QAS (QH5 t) rdb ?_;rintro⟨x,_⟩ _ ⟨hx,rfl⟩;simp only at hx;subst hx;refine QA2 (ca1 ?_);iterate 7 (refine QDK (h:=?_))
  rw[QAC (t.addr - p.addr+t.width) Om Om];refine QEi Om Om Om Om ?_;rw[Wh];have s:=i.2.cut (t.addr - p.addr).toNat (t.addr - p.addr+t.width).toNat d.c Om Om Om;rw[show (t.addr - p.addr+t.width).toNat=(t.addr - p.addr).toNat+t.width.toNat by omega]at s|-;generalize A:(a.take ((t.addr - p.addr).toNat+t.width.toNat)).drop (t.addr - p.addr).toNat=g at s
  have G:g.length=if t.wide=true then 2 else 1:=by
   rw[<-A]
   have hl:((a.take ((t.addr - p.addr).toNat+t.width.toNat)).drop (t.addr - p.addr).toNat).length=t.width.toNat:=by simp;omega
   rw[hl];unfold Tag.width
   cases t.wide with
   | false=>rfl
   | true=>rw[We ⟨rfl,Om⟩];rfl
  have e:valueM t p on a=valN t.mul t.div t.add (rawN t.wide t.swap t.sgn g):=by unfold valueM;rw[Wb j,A]
  haveI:Fro B (d.cut (t.addr - p.addr).toNat ((t.addr - p.addr).toNat+t.width.toNat) d.c 1) U16 g:=⟨s⟩;obtain⟨C,D⟩:=Qgn (sgn:=t.sgn) o g;refine QAS (QcT t.wide t.sgn t.swap t.mul t.div t.add _ g o G) rdb ?_;rintro⟨x,y,_⟩ _ ⟨hx,f,rfl⟩;simp only at hx f;subst hx f;refine QA2 (ca2 ?_);iterate 6 (refine xgq ?_)
  refine QAS (QXw t.wide t.sgn t.swap t.mul t.div t.add _ o C D) rdb ?_;rintro⟨x,y,_⟩ _ ⟨hx,f,rfl⟩;simp only at hx f;subst hx f;exact QA2 (ca2 (q e.symm))
def tagAt(ts:List Tag)(k:Int):Option Tag:=if k<0 then none else ts[k.toNat]?
def goV(ts:List Tag)(p:Poll)(on:List Bool)(b:List UInt16):Ae->Ae->Ae×Int
 | [],a=>(a,0)
 | k::ks,a=>match tagAt ts k with
  | none=>([],3)
  | some t=>if withinT t p=true then goV ts p on b ks (a++[valueM t p on b]) else ([],3)
def valuesM(ts:List Tag)(p:Poll)(exc:Int)(on:List Bool)(a:List UInt16)(b:Nat):Ae×Int:=
 if (allE ts).1≠0 then ([],(allE ts).1)
 else if QUx p≠0 then ([],QUx p)
 else if replyE p.kind p.addr p.count exc on.length a.length b≠0 then ([],replyE p.kind p.addr p.count exc on.length a.length b)
 else if exc≠0 then ([],12) else goV ts p on a p.tags []
theorem ask_ok{p:Poll}(h:QUx p=0):1<=p.kind/\p.kind<=4/\0<=p.addr/\p.addr<=65535/\1<=p.count/\p.count<=QIV p.kind/\p.count<=2000/\p.addr+p.count<=65536:=by
 unfold QUx at h;split at h
 ·cases h
 unfold askE at h;split at h
 ·cases h
 split at h
 ·cases h
 split at h
 ·cases h
 have:QIV p.kind<=2000:=by unfold QIV;split<;>decide
 omega
theorem Qc4{k addr count:Int}{a b d:Nat}(h:replyE k addr count 0 a b d=0):(k<=2->(a:Int)=count)/\(2<k->(b:Int)=count):=by
 unfold replyE at h;split at h
 ·rename_i h0;exact absurd h h0
 rw[Wb (by simp)]at h;split at h
 ·cases h
 split at h
 ·cases h
 rename_i h1 e
 constructor
 ·intro c;omega
 ·intro c;omega
theorem Values_spec(l:Sl)(ts:List Tag)(p:Poll)(w:Sl)(exc:Int)(A i d:Sl)(on:List Bool)(a:List UInt16)(hc:i.n<=i.c)(b3:p.tags.length<=1000000) :
  Ct Pr 338 [l.v,.agg #[.I p.unit,.I p.kind,.I p.addr,.I p.count,.I p.every,w.v],.agg #[.I exc,A.v,i.v,d.v]] (.tup [none,none]) [.slice,.I] []
  ((RAr TG l ts).and ((RAr I64 w p.tags).and ((RAr BL A on).and (RAr U16 i a))))
  (fun r Bs=>r.2.1=(valuesM ts p exc on a d.n).2/\Bs=[Ar I64 r.1 (valuesM ts p exc on a d.n).1]):=by
 refine sp2 (QMZ _ _ _ _ _ _ _ _ _ _ _) fun B f=>?_;haveI:Fro B l TG ts:=⟨f.1⟩;haveI:Fro B w I64 p.tags:=⟨f.2.1⟩;haveI:Fro B A BL on:=⟨f.2.2.1⟩;haveI:Fro B i U16 a:=⟨f.2.2.2⟩;have hl:=f.1.1;have b0:=f.2.1.1;have Z:=f.2.2.1.1;have a0:=f.2.2.2.1
 have z:∀{x:Int}{As:List HP},valuesM ts p exc on a d.n=([],x)->Ent B As (Ret B (ss:=[.slice,.I]) (fun r Bs=>r.2.1=(valuesM ts p exc on a d.n).2/\Bs=[Ar I64 r.1 (valuesM ts p exc on a d.n).1]) (nilS,x,())):=fun h=>by
  rw[h];exact QAf I64 (QAd (l:=[Ar I64 nilS []]) (QAD ⟨rfl,rfl⟩))
 unfold QMZ mf;dsimp only;refine QAL fun b=>QAL fun S=>?_;refine QAS (CheckAll_spec l ts) rdb ?_;rintro⟨e,at_,_⟩ _ ⟨he,M,rfl⟩;simp only at he M;subst he M;refine QA2 (ca2 (xif (fun h0=>z ?_) (fun h0=>?_)))
 ·unfold valuesM;rw[We (Si h0)]
 have h0:(allE ts).1=0:=Si h0
 have b1:=allE_len h0;iterate 6 (refine xgq ?_)
 refine QAS (Ask_spec p w) rdb ?_;rintro t _ ⟨rfl,rfl⟩;refine QA2 (ca7 (QAL fun a4=>?_));iterate 6 (refine xsq ?_)
 refine xif (fun h1=>z ?_) (fun h1=>?_)
 ·unfold valuesM;rw[Wb (by simp[h0]),We (Si h1)]
 have h1:QUx p=0:=Si h1
 obtain⟨U,V,N,a2,a7,a8,O,a9⟩:=ask_ok h1
 have a1:askR p=(p.kind,p.addr,p.count):=by unfold askR;rw[We h1]
 iterate 3 (refine xgq ?_)
 iterate 3 (refine QAh (s:=.slice) (x:=nilS) (h:=?_))
 iterate 4 (refine xgq ?_)
 rw[a1]
 (try dsimp only)
 refine QAS (QMB p.kind p.addr p.count exc A i d ⟨U,V⟩) rdb ?_;rintro⟨x,_⟩ _ ⟨hx,rfl⟩;simp only at hx;rw[<-Z,<-a0]at hx;subst hx;refine QA2 (ca1 (xif (fun g=>z ?_) (fun g=>?_)))
 ·unfold valuesM;rw[Wb (by simp[h0]),Wb (by simp[h1]),We (Si g)]
 have g:replyE p.kind p.addr p.count exc on.length a.length d.n=0:=Si g
 refine xgq (xif (fun y=>z ?_) (fun y=>?_))
 ·unfold valuesM;rw[Wb (by simp[h0]),Wb (by simp[h1]),Wb (by simp[g]),We (Si y)]
 have y:exc=0:=Si y
 have ev:valuesM ts p exc on a d.n=goV ts p on a p.tags []:=by
  unfold valuesM;rw[Wb (by simp[h0]),Wb (by simp[h1]),Wb (by simp[g]),Wb (by simp[y])]
 rw[y]at g;obtain⟨W,X⟩:=Qc4 g;refine xgq ?_;refine QCD 0 (QAf I64 ?_);refine QBt (fun n (H:Sl) (x:Int) As'=>∃(j:Nat) (xs:Ae),x=(j:Int)/\n=p.tags.length - j/\j<=p.tags.length/\xs.length<=j/\goV ts p on a p.tags []=goV ts p on a (p.tags.drop j) xs/\As'=[Ar I64 H xs,Blk S [.I exc,A.v,i.v,d.v],Blk b [.I p.unit,.I p.kind,.I p.addr,.I p.count,.I p.every,w.v]]) p.tags.length ⟨0,[],rfl,Om,Om,by simp,rfl,rfl⟩ ?_;rintro n H x As' K ⟨j,xs,rfl,rfl,hj,a',D,rfl⟩ Y

 refine QAB (fun G=>?_) (fun G=>?_)
 rotate_left
 ·have e:valuesM ts p exc on a d.n=(xs,0):=by rw[ev,D,Zh Om];rfl
  rw[e];exact QAd (l:=[Ar I64 H xs]) (QAD ⟨rfl,rfl⟩)
 have G:j<p.tags.length:=Om

 refine QAH (h1:=G) (h:=fun k J=>?_);refine QAN J (h:=QAP (QAM ?_))
 have a3:p.tags.drop j=k::p.tags.drop (j+1):=by
  rw[Ws G];rw[(Wc.1 J).2]
 rw[a3]at D;have bad:∀{As:List HP},tagAt ts k=none->Ent B As (Ret B (ss:=[.slice,.I]) (fun r Bs=>r.2.1=(valuesM ts p exc on a d.n).2/\Bs=[Ar I64 r.1 (valuesM ts p exc on a d.n).1]) (nilS,3,())):=fun h=>z (by rw[ev,D];simp only[goV,h]);refine xif (fun q=>QCC rfl (QCC rfl (bad ?_))) (fun q=>xif (fun C=>QCC rfl (bad ?_)) (fun C=>?_))
 ·unfold tagAt;rw[We (Ox q)]
 ·have q:¬k<0:=Uv q;have C:k>=(l.n:Int):=Ox C;unfold tagAt;rw[Wb q,Ui Om]
 have q:¬k<0:=Uv q;have C:¬k>=(l.n:Int):=Uv C;obtain⟨m,rfl⟩:∃m:Nat,k=(m:Int):=⟨k.toNat,Om⟩
 have P:m<ts.length:=Om
 refine QAH (h1:=P) (h:=fun t o=>?_)
 have Q:tagAt ts (m:Int)=some t:=by unfold tagAt;rw[Wb q,Wh,o]
 have R:=allE_tag h0 o;refine QAN o (h:=?_);iterate 18 (refine QAa o (h:=?_))
 iterate 6 (refine xgq ?_)
 refine QAS (QRu t p w R N a2 Om O) rdb ?_;rintro⟨x,_⟩ _ ⟨hx,rfl⟩;simp only at hx;subst hx;refine QA2 (ca1 (xif (fun u=>z ?_) (fun u=>QAP ?_)))
 ·rw[ev,D];simp only[goV,Q];rw[Wb (Si u)]
 have u:withinT t p=true:=Si u
 refine QAH (h1:=P) (h:=fun T L=>?_)
 obtain rfl:t=T:=by rw[o]at L;cases L;rfl
 refine QAN o (h:=?_);iterate 18 (refine QAa o (h:=?_))
 iterate 10 (refine xgq ?_)
 have b2:=(QMs u).2.1;refine QAS (QXm t p w exc A i d on a R u N a2 Om O hc (fun h=>W Om) (fun h=>X Om)) rdb ?_;rintro⟨x,_⟩ _ ⟨hx,rfl⟩;simp only at hx;subst hx;refine QA2 (ca1 (QAL fun a5=>?_));refine QE4 (E:=I64) (valueM t p on a) (hb:=Om) (h:=fun a6=>?_);rw[QAE j Om];exact Y _ _ _ _ Om ⟨j+1,_,rfl,rfl,Om,by simp;omega,by rw[D];simp only[goV,Q];rw[We u],rfl⟩
end Go.Cx.Pn
