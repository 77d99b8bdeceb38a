/-
The sender: what is to be sent upwards.
-/
import Derived.Test.YthbhbkjkclhkgaaGreatDoorHY
import Derived.Test.YthbhbkjkclhkgaaGreatDoorA4
import Derived.Laws.BitsAllLaws
set_option linter.unusedSimpArgs false
namespace Go.Cx
open Go Go.Cf
set_option linter.unusedVariables false
set_option maxRecDepth 100000
variable {B:QBJ}{As F:List HP}
structure SeM where
 window:Int
 resend:Int
 epoch:Int
 base:Int
 sent:Int
 top:Int
 since:Int
abbrev SeM.cells(m:SeM):Ad:=[.I m.window,.I m.resend,.I m.epoch,.I m.base,.I m.sent,.I m.top,.I m.since]
structure QVY(m:SeM):Prop where
 window:1<=m.window/\m.window<=16
 resend:1<=m.resend/\m.resend<=1048576
 epoch:1<=m.epoch/\m.epoch<=1099511627776
 base:0<=m.base
 sent:m.base<=m.sent
 top:m.sent<=m.top
 topMax:m.top<=1099511627776
 since:0<=m.since/\m.since<=1099511627776
def QBD(q:Ac)(m:SeM):HP:=fun h=>QVY m/\∃b,q=some ⟨b,0,none⟩/\QBr [Blk b m.cells] h
abbrev QG7(window resend epoch base:Int):SeM:=⟨window,resend,epoch,base,base,base,0⟩
def QIy(window resend epoch base:Int):Bool:=decide (1<=window)&&decide (window<=16)&&decide (1<=resend)&&decide (resend<=1048576)&&decide (1<=epoch)&&decide (epoch<=1099511627776)&&decide (0<=base)&&decide (base<=1099511627776)
def QHa(m:SeM)(now next:Int):SeM×Ae:=
 if now<0\/now>1099511627776\/next>1099511627776 then (m,[]) else
  let d:SeM:={ m with top:=if next>m.top then next else m.top }
  let a:SeM:=if m.sent>m.base/\now>=m.since+m.resend then { d with sent:=m.base } else d
  let c:=(if m.base+m.window<next then m.base+m.window else next) - a.sent
  if next<=a.sent\/c<=0 then (a,[]) else ({ a with sent:=a.sent+c,since:=now },(List.range c.toNat).map fun(i:Nat)=>a.sent+(i:Int))
def QWv(m:SeM)(now epoch next:Int):SeM×Bool:=
 if now<0\/now>1099511627776\/epoch≠m.epoch\/next<=m.base\/next>m.top then (m,false)
 else ({ m with base:=next,sent:=if next>m.sent then next else m.sent,since:=now },true)
theorem QOK(n lo hi:Int):Ct Pr 121 [.I n,.I lo,.I hi] .one [.bool] [] emp (fun t Bs=>t.1=(decide (n>=lo)&&decide (n<=hi))/\Bs=[]):=by
 refine sp1 (QKK _ _ _) fun B _=>?_;unfold QKK mf;dsimp only;exact QAD ⟨rfl,rfl⟩
theorem Qds{n lo hi:Int}{K:Bool->WP}(h:Ent B As (K (decide (n>=lo)&&decide (n<=hi)))):Ent B As (QAX Pr 121 [.I n,.I lo,.I hi] .one [.bool] fun(c:Bool)=>K c):=by
 refine QAS (QOK n lo hi) rdb ?_;rintro⟨c,_⟩ _ ⟨hc,rfl⟩;obtain rfl:c=_:=hc;exact QA2 (ca1 h)
theorem QiY{c:Bool}{n lo hi:Int}{rest:Bool->WP}(h:Ent B As (rest (c || !(decide (n>=lo)&&decide (n<=hi))))) :
  Ent B As (QBW [.bool] (fun(a:Bool->WP)=>XIf c (a true) (QAX Pr 121 [.I n,.I lo,.I hi] .one [.bool] fun(d:Bool)=>a (!d))) rest):=by
 refine QAM (xif (fun e=>?_) (fun e=>Qds ?_))
 ·rw[e,Bool.true_or]at h;exact h
 ·rw[e,Bool.false_or]at h;exact h
theorem QjK(j:Nat){q:Ac}{m:SeM}{φ:WP}[p:Pick j As (QBD q m) F](h:∀b,q=some ⟨b,0,none⟩->QVY m->Ent B (Blk b m.cells::F) φ):Ent B As φ:=by
 refine QEZ j (fun Bs=>∃b,q=some ⟨b,0,none⟩/\QVY m/\Bs=[Blk b m.cells]) (fun g c=>?_) ?_
 ·obtain⟨a,b,e,hb⟩:=c;exact⟨_,⟨b,e,a,rfl⟩,hb⟩
 ·rintro _ ⟨b,e,a,rfl⟩;exact QAz (h b e a)
theorem QUK(window resend epoch base:Int):Ct Pr 58 [.I window,.I resend,.I epoch,.I base] (.tup [none,none]) [.ptr,.I] [] emp
  (fun t Bs=>(QIy window resend epoch base=true/\t.2.1=0/\Bs=[QBD t.1 (QG7 window resend epoch base)])\/(QIy window resend epoch base=false/\t.1=none/\t.2.1=3/\Bs=[])):=by
 refine sp2 (QOw _ _ _ _) fun B _=>?_;unfold QOw mf;dsimp only;refine Qds (QiY (QiY (QiY (xif (fun h=>QAD (.inr ⟨?_,rfl,rfl,rfl⟩)) (fun h=>QAL fun b=>?_)))))
 ·simp at h;rcases Ll (QIy window resend epoch base) with e|e
  ·unfold QIy at e;simp at e;omega
  ·exact e
 ·simp at h;refine QBO [Blk b (QG7 window resend epoch base).cells] (QBD (some ⟨b,0,none⟩) (QG7 window resend epoch base)) (fun g a=>⟨?_,b,rfl,a⟩) (QAD (.inl ⟨?_,rfl,rfl⟩))
  ·constructor<;>simp only[QG7] <;> omega
  ·unfold QIy;simp;omega
theorem QTj(q:Ac)(m:SeM):Ct Pr 242 [.pointer q] .one [.I] [QBD q m] emp (fun t Bs=>t.1=m.base/\Bs=[QBD q m]):=by
 refine sp1 (QFO _) fun B _=>?_;unfold QFO mf;dsimp only;refine QjK 0 fun b a c=>?_;subst a;refine QAO (QAh (s:=.I) (x:=m.base) (hv:=rfl) (h:=?_));exact QBO [Blk b m.cells] (QBD (some ⟨b,0,none⟩) m) (fun g d=>⟨c,b,rfl,d⟩) (QAD ⟨rfl,rfl⟩)
theorem QUr{c d:Bool}{φ:(Bool->WP)->WP}{rest:Bool->WP}(f:∀K:Bool->WP,Ent B As (K d)->Ent B As (φ K))(h:Ent B As (rest (c||d))):Ent B As (QBW [.bool] (fun(a:Bool->WP)=>XIf c (a true) (φ a)) rest):=by
 refine QAM (xif (fun e=>?_) (fun e=>f _ ?_))
 ·rw[e,Bool.true_or]at h;exact h
 ·rw[e,Bool.false_or]at h;exact h
theorem QUS(q:Ac)(m:SeM)(now epoch next:Int):Ct Pr 241 [.pointer q,.I now,.I epoch,.I next] .one [.bool] [QBD q m] emp
  (fun t Bs=>t.1=(QWv m now epoch next).2/\Bs=[QBD q (QWv m now epoch next).1]):=by
 refine sp1 (QFy _ _ _ _) fun B _=>?_;unfold QFy mf;dsimp only;refine Qds ?_;refine QjK 0 fun b d c=>?_;subst d;refine QUr (fun K h=>QAO (QAh (s:=.I) (x:=m.epoch) (hv:=rfl) h)) ?_;refine QUr (fun K h=>QAO (QAh (s:=.I) (x:=m.base) (hv:=rfl) h)) ?_;refine QUr (fun K h=>QAO (QAh (s:=.I) (x:=m.top) (hv:=rfl) h)) ?_;unfold QWv;refine xif (fun h=>?_) (fun h=>?_)
 ·rw[We (by simp at h;omega)];exact QBO [Blk b m.cells] (QBD (some ⟨b,0,none⟩) m) (fun g a=>⟨c,b,rfl,a⟩) (QAD ⟨rfl,rfl⟩)
 ·have e:¬(now<0\/now>1099511627776\/epoch≠m.epoch\/next<=m.base\/next>m.top):=by simp at h;omega
  rw[Wb e];refine QAO (QAh (s:=.I) (x:=m.sent) (hv:=rfl) (h:=?_));refine QAO (xsq (QAO (xsq (QAO (xsq ?_)))));obtain⟨f,i,j,k,o5,l,n,o⟩:=c;refine QBO [Blk b ({ m with base:=next,sent:=if next>m.sent then next else m.sent,since:=now }:SeM).cells] (QBD (some ⟨b,0,none⟩) { m with base:=next,sent:=if next>m.sent then next else m.sent,since:=now }) (fun g a=>⟨?_,b,rfl,a⟩) (QAD ⟨rfl,rfl⟩);constructor<;>simp only<;>first|omega|(split<;>omega)
theorem QRy(q:Ac)(m:SeM)(now next:Int):Ct Pr 203 [.pointer q,.I now,.I next] .one [.slice] [QBD q m] emp
  (fun t Bs=>Bs=[Ar I64 t.1 (QHa m now next).2,QBD q (QHa m now next).1]):=by
 refine sp1 (QFZ _ _ _) fun B _=>?_;unfold QFZ mf;dsimp only;refine Qds ?_;refine QjK 0 fun b D C=>?_;subst D;refine xif (fun h=>?_) (fun h=>?_)
 ·have e:QHa m now next=(m,[]):=by unfold QHa;rw[We (by simp at h;omega)]
  rw[e];refine QBO [Blk b m.cells] (QBD (some ⟨b,0,none⟩) m) (fun g l=>⟨C,b,rfl,l⟩) ?_;exact QAf I64 (QAK [Ar I64 ⟨none,0,0⟩ [],QBD (some ⟨b,0,none⟩) m] (QAD rfl))
 have h0:¬(now<0\/now>1099511627776\/next>1099511627776):=by simp at h;omega
 have e:QHa m now next=QHa m now next:=rfl
 conv at e=>rhs;unfold QHa;rw[Wb h0]
 simp only at e;obtain⟨O,P,Q,R,o5,S,T,U⟩:=C;refine QAO (QAh (s:=.I) (x:=m.top) (hv:=rfl) (h:=QAO (xsq (QAP ?_))));generalize N:(if next>m.top then next else m.top)=a at e
 have X:m.top<=a/\next<=a/\a<=1099511627776:=by subst N;split<;>omega
 refine QAV (fun(c:Bool) As'=>As'=[Blk b ({ m with top:=a }:SeM).cells]/\(c=true↔(m.sent>m.base/\now>=m.since+m.resend))) (fun K d=>?_) ?_
 ·refine QAO (QAh (s:=.I) (x:=m.sent) (hv:=rfl) (h:=QAO (QAh (s:=.I) (x:=m.base) (hv:=rfl) (h:=?_))));refine QAB (fun h1=>?_) (fun h1=>d _ _ ⟨rfl,by simp<;>omega⟩);refine QAO (QAh (s:=.I) (x:=m.since) (hv:=rfl) (h:=QAO (QAh (s:=.I) (x:=m.resend) (hv:=rfl) (h:=?_))));rw[QAC _ Om Om];exact d _ _ ⟨rfl,by simp<;>omega⟩
 rintro c _ ⟨rfl,hc⟩;generalize z:(if m.sent>m.base/\now>=m.since+m.resend then ({ m with top:=a,sent:=m.base }:SeM) else { m with top:=a })=m2 at e
 have u:m2={ m with top:=a,sent:=m2.sent }/\m.base<=m2.sent/\m2.sent<=m.sent:=by
  subst z;split
  ·exact⟨rfl,Uo _,o5⟩
  ·exact⟨rfl,o5,Uo _⟩
 obtain⟨u,V,W⟩:=u;refine QBh (fun As'=>As'=[Blk b m2.cells]) (fun K d=>?_) ?_
 ·refine xif (fun h1=>QAO (QAh (s:=.I) (x:=m.base) (hv:=rfl) (h:=QAO (xsq (d _ ?_))))) (fun h1=>d _ ?_)
  ·rw[<-z,We (hc.1 h1)]
  ·rw[<-z,Wb (fun G=>by rw[hc.2 G]at h1;cases h1)]
 rintro _ rfl
 generalize m2.sent=st at *
 subst u;refine QAP (QAO (QAh (s:=.I) (x:=m.base) (hv:=rfl) (h:=QAO (QAh (s:=.I) (x:=m.window) (hv:=rfl) (h:=?_)))));refine QAO (QAh (s:=.I) (x:=st) (hv:=rfl) (h:=QAO (QAh (s:=.I) (x:=st) (hv:=rfl) (h:=?_))));rw[QAC (m.base+m.window) Om Om];generalize A:(if m.base+m.window<next then m.base+m.window else next)=f at e
 have Y:f<=m.base+m.window/\f<=next:=by subst A;split<;>omega
 refine xif (fun h1=>?_) (fun h1=>?_)
 ·have w:next<=st\/f - st<=0:=by
   by_cases hn:next<=st
   ·exact .inl hn
   ·rw[QAC _ (by subst A;split<;>omega) Om]at h1;simp at h1;omega
  rw[We w]at e;rw[e];refine QBO [Blk b ({ m with top:=a,sent:=st }:SeM).cells] (QBD (some ⟨b,0,none⟩) { m with top:=a,sent:=st }) (fun g l=>⟨?_,b,rfl,l⟩) ?_
  ·constructor<;>simp only<;>omega
  ·exact QAf I64 (QAK [Ar I64 ⟨none,0,0⟩ [],QBD (some ⟨b,0,none⟩) { m with top:=a,sent:=st }] (QAD rfl))
 have hn:¬next<=st:=by simp at h1;omega
 rw[QAC (f - st) (by subst A;split<;>omega) Om]at h1|-
 have w:¬(next<=st\/f - st<=0):=by simp at h1;omega
 rw[Wb w]at e;rw[e];obtain⟨k,J⟩:∃k:Nat,f - st=(k:Int):=W1 Om;rw[J];refine QTF I64 Om (by simp;omega) (h:=fun p=>?_);simp only[Wh];refine QBa (fun n (x:Int) As'=>∃j:Nat,x=(j:Int)/\n=k - j/\j<=k/\As'=[Ar I64 ⟨some ⟨p,0,none⟩,k,k⟩ (((List.range j).map fun(i:Nat)=>st+(i:Int))++List.replicate (k - j) 0),Blk b ({ m with top:=a,sent:=st }:SeM).cells]) k ⟨0,rfl,rfl,Om,rfl⟩ ?_;rintro n x As' K ⟨j,rfl,rfl,hj,rfl⟩ d;refine QAB (fun o=>?_) (fun o=>?_)
 ·have o:j<k:=Om
  refine QAO (QAh (s:=.I) (x:=st) (hv:=rfl) (h:=?_));refine QAH (E:=I64) (xs:=((List.range j).map fun(i:Nat)=>st+(i:Int))++List.replicate (k - j) 0) (s:=⟨some ⟨p,0,none⟩,k,k⟩) (h1:=by simp;omega) (h:=fun y H=>?_);rw[QAC (st+(j:Int)) Om Om,QAE j Om];refine QIJ (E:=I64) (st+(j:Int)) H (hv:=rfl) (h:=?_);refine d (k - (j+1)) _ _ Om ⟨j+1,rfl,rfl,Om,?_⟩
  have M:(((List.range j).map fun(i:Nat)=>st+(i:Int))++List.replicate (k - j) 0).set j (st+(j:Int))=((List.range (j+1)).map fun(i:Nat)=>st+(i:Int))++List.replicate (k - (j+1)) 0:=by
   rw[U5 _ _ (by simp),Kc,Uw];simp only[O3,Ky,Ur];obtain⟨r,L⟩:∃r,k - j=r+1:=⟨k - j - 1,Om⟩;rw[L,K8,Ld,show k - (j+1)=r by omega];simp
  rw[M]
 ·have o:j=k:=Om
  subst o;refine QAO (QAh (s:=.I) (x:=st) (hv:=rfl) (h:=QAO (xsq (QAO (xsq ?_)))));rw[QAC (st+(j:Int)) Om Om];rw[Ur,List.replicate_zero,Oi];refine QBO [Blk b ({ m with top:=a,sent:=st+(j:Int),since:=now }:SeM).cells] (QBD (some ⟨b,0,none⟩) { m with top:=a,sent:=st+(j:Int),since:=now }) (fun g l=>⟨?_,b,rfl,l⟩) ?_
  ·constructor<;>simp only<;>omega
  ·exact QAK [Ar I64 ⟨some ⟨p,0,none⟩,j,j⟩ ((List.range j).map fun(i:Nat)=>st+(i:Int)),QBD (some ⟨b,0,none⟩) { m with top:=a,sent:=st+(j:Int),since:=now }] (QAD rfl)
structure QI3 where
 every:Int
 next:Int
 fails:Int
 deriving DecidableEq
instance:Inhabited QI3:=⟨⟨0,0,0⟩⟩
def SLT:Enc QI3:=⟨fun x=>[.I x.every,.I x.next,.I x.fails],3,fun _=>rfl,fun x v h=>by simp at h;rcases h with rfl|rfl|rfl<;>rfl,Dc,⟨0,0,0⟩⟩
def QMl(s:QI3):Bool:=decide (s.every>0)&&decide (s.every<=1048576)&&decide (s.next>=0)&&decide (s.next<=2199023255552)&&decide (s.fails>=0)&&decide (s.fails<=10)
def QM1(s:QI3)(now:Int)(ok:Bool):QI3:=
 if QMl s=false\/now<0\/now>1099511627776 then s
 else if ok then ⟨s.every,s.next+s.every*(1+(if now - s.next>0 then now - s.next else 0) / s.every),0⟩
 else
  let f:=if 10<s.fails+1 then 10 else s.fails+1
  ⟨s.every,now+s.every*2 ^ (if 5<f then 5 else f).toNat,f⟩
def QJ7(every now:Int):Bool:=decide (every<1)||decide (every>1048576)||decide (now<0)||decide (now>1099511627776)
theorem QLO(every now:Int):Ct Pr 61 [.I every,.I now] (.tup [some 3,none]) [.I,.I,.I,.I] [] emp
  (fun t Bs=>t=(if QJ7 every now then (0,0,0,3,()) else (every,now,0,0,()))/\Bs=[]):=by
 refine sp4 (QRt _ _) fun B _=>?_;unfold QRt mf;dsimp only;refine QAL fun b=>?_;refine xif (fun h=>?_) (fun h=>?_)
 ·iterate 3 (refine xsq ?_)
  iterate 3 (refine xgq ?_)
  exact QAd (l:=[]) (QAD ⟨by unfold QJ7;rw[h];rfl,rfl⟩)
 ·iterate 3 (refine xsq ?_)
  iterate 3 (refine xgq ?_)
  exact QAd (l:=[]) (QAD ⟨by unfold QJ7;rw[h];rfl,rfl⟩)
theorem QGR{c d:Bool}{φ:(Bool->WP)->WP}{rest:Bool->WP}(f:∀K:Bool->WP,Ent B As (K d)->Ent B As (φ K))(h:Ent B As (rest (c&&d))):Ent B As (QBW [.bool] (fun(a:Bool->WP)=>XIf c (φ a) (a false)) rest):=by
 refine QAM (xif (fun e=>f _ ?_) (fun e=>?_))
 ·rw[e,Bool.true_and]at h;exact h
 ·rw[e,Bool.false_and]at h;exact h
theorem QXT(s:QI3):Ct Pr 341 [.agg #[.I s.every,.I s.next,.I s.fails]] .one [.bool] [] emp (fun t Bs=>t.1=QMl s/\Bs=[]):=by
 refine sp1 (QNr _ _ _) fun B _=>?_;unfold QNr mf;dsimp only;refine QAL fun b=>QAh (s:=.I) (x:=s.every) (h:=?_);refine QGR (fun K h=>QAh (s:=.I) (x:=s.every) (h:=h)) ?_;refine QGR (fun K h=>QAh (s:=.I) (x:=s.next) (h:=h)) ?_;refine QGR (fun K h=>QAh (s:=.I) (x:=s.next) (h:=h)) ?_;refine QGR (fun K h=>QAh (s:=.I) (x:=s.fails) (h:=h)) ?_;refine QGR (fun K h=>QAh (s:=.I) (x:=s.fails) (h:=h)) ?_;exact QAd (l:=[]) (QAD ⟨rfl,rfl⟩)
theorem QQe(s:QI3)(now:Int)(ok:Bool):Ct Pr 240 [.agg #[.I s.every,.I s.next,.I s.fails],.I now,.bool ok] .agg [.I,.I,.I] [] emp
  (fun t Bs=>t=((QM1 s now ok).every,(QM1 s now ok).next,(QM1 s now ok).fails,())/\Bs=[]):=by
 refine sp3 (QPf _ _ _ _ _) fun B _=>?_;unfold QPf mf;dsimp only;refine QAL fun b=>QAL fun A=>?_;iterate 3 (refine xgq ?_)
 refine QAS (QXT s) rdb ?_;rintro⟨c,_⟩ _ ⟨hc,rfl⟩;obtain rfl:c=QMl s:=hc;refine QA2 (ca1 (xif (fun h=>?_) (fun h=>?_)))
 ·iterate 3 (refine xgq ?_)
  iterate 3 (refine xsq ?_)
  iterate 3 (refine xgq ?_)
  have e:QM1 s now ok=s:=by unfold QM1;rw[We (by simp at h;rcases h with (h|h)|h<;>simp[h])]
  rw[e];exact QAd (l:=[]) (QAD ⟨rfl,rfl⟩)
 have hn:¬(QMl s=false\/now<0\/now>1099511627776):=by
  simp at h;rintro (k|k|k)
  ·rw[k]at h;simp at h
  ·omega
  ·omega
 have u:QMl s=true:=by cases hb:QMl s with|true=>rfl|false=>exact absurd (.inl hb) hn
 have m:=u;unfold QMl at m;simp only[Wf,Wq]at m;obtain⟨⟨⟨⟨⟨C,r⟩,D⟩,E⟩,G⟩,H⟩:=m
 have J:0<=now/\now<=1099511627776:=Om
 refine xif (fun j=>?_) (fun j=>?_)
 ·refine xsq (QAP ?_);refine QAh (h:=QAh (h:=QAh (h:=QAh (h:=QBA Om ?_))));rw[QAC (now - s.next) Om Om];generalize o:(if now - s.next>0 then now - s.next else 0)=a
  have n:0<=a/\a<=1099511627776:=by subst o;split<;>omega
  have w:a.tdiv s.every=a / s.every:=Um n.1;have x:0<=a / s.every:=Int.ediv_nonneg n.1 Om;have K:a / s.every<=a:=Int.ediv_le_self _ n.1;have L:s.every*(a / s.every)<=a:=Int.mul_ediv_self_le Om
  have M:s.every*(1+a / s.every)=s.every+s.every*(a / s.every):=by rw[Int.mul_add,Int.mul_one]
  have y:0<=s.every*(a / s.every):=Int.mul_nonneg Om x;rw[w,QAC (a / s.every) Om Om,QAC (1+a / s.every) Om Om,QAC (s.every*(1+a / s.every)) Om Om,QAC (s.next+s.every*(1+a / s.every)) Om Om];refine xsq ?_;iterate 3 (refine xgq ?_)
  iterate 3 (refine xsq ?_)
  iterate 3 (refine xgq ?_)
  have e:QM1 s now ok=⟨s.every,s.next+s.every*(1+a / s.every),0⟩:=by unfold QM1;rw[Wb hn,We j,o]
  rw[e];exact QAd (l:=[]) (QAD ⟨rfl,rfl⟩)
 ·refine xgq ?_;rw[QAC (s.fails+1) Om Om];generalize p:(if 10<s.fails+1 then 10 else s.fails+1)=f
  have N:1<=f/\f<=10:=by subst p;split<;>omega
  refine xsq (xgq (xgq (QBA ?_ ?_)))
  ·split<;>omega
  generalize q:(if 5<f then 5 else f)=g
  have O:1<=g/\g<=5:=by subst q;split<;>omega
  have z:min g.toNat 64=g.toNat:=Om
  rw[z]
  have d:(2:Int) ^ g.toNat<=32/\0<=(2:Int) ^ g.toNat:=by
   have:g.toNat=1\/g.toNat=2\/g.toNat=3\/g.toNat=4\/g.toNat=5:=Om
   rcases this with h|h|h|h|h<;>rw[h] <;> decide
  have e:QM1 s now ok=⟨s.every,now+s.every*2 ^ g.toNat,f⟩:=by
   unfold QM1;rw[Wb hn,Wb (by rw[j];decide)]
   (try simp only)
   rw[p,q]
  generalize (2:Int) ^ g.toNat=i at d e;have P:s.every*i<=1048576*32:=Int.mul_le_mul r d.1 d.2 Dc;have y:0<=s.every*i:=Int.mul_nonneg Om d.2;rw[QAC (s.every*i) Om Om,QAC (now+s.every*i) Om Om];refine xsq ?_;iterate 3 (refine xgq ?_)
  iterate 3 (refine xsq ?_)
  iterate 3 (refine xgq ?_)
  rw[e];exact QAd (l:=[]) (QAD ⟨rfl,rfl⟩)
def QFh(now:Int)(l:List QI3)(k:Int)(i:Nat):Int:=
 match l[i]? with
 | some s=>if s.next<=now/\(k<0\/s.next<(l.getD k.toNat default).next) then (i:Int) else k
 | none=>k
def QTw(l:List QI3)(now:Int):Int:=(List.range l.length).foldl (QFh now l) (-1)
theorem QMo(now:Int)(l:List QI3):∀n,n<=l.length->-1<=(List.range n).foldl (QFh now l) (-1)/\(List.range n).foldl (QFh now l) (-1)<n\/n=0/\(List.range n).foldl (QFh now l) (-1) = -1:=by
 intro n hn
 induction n with
 | zero=>exact .inr ⟨rfl,rfl⟩
 | succ n ih=>
  have:=ih Om;rw[Kc,Uu,Zr,List.foldl_nil];left;generalize (List.range n).foldl (QFh now l) (-1)=a at this|-;unfold QFh
  cases hl:l[n]? with
  | none=>have:=List.getElem?_eq_none_iff.1 hl;omega
  | some s=>simp only;split<;>omega
theorem QTc(l:Sl)(ss:List QI3)(now:Int)(hl:ss.length<=1048576):Ct Pr 328 [l.v,.I now] .one [.I] [] (RAr SLT l ss) (fun t Bs=>t.1=QTw ss now/\Bs=[]):=by
 refine sp1 (QTh _ _) fun B o=>?_;haveI:Fro B l SLT ss:=⟨o⟩;have hn:ss.length=l.n:=o.1;unfold QTh mf;dsimp only;refine QBt (fun n (d:Int) (x:Int) As'=>∃k:Nat,x=(k:Int)/\n=ss.length - k/\k<=ss.length/\d=(List.range k).foldl (QFh now ss) (-1)/\As'=[]) ss.length ⟨0,rfl,rfl,Om,rfl,rfl⟩ ?_;rintro n d x As' K ⟨k,rfl,rfl,C,m,rfl⟩ D;have hb:=QMo now ss k C;rw[<-m]at hb;refine QAB (fun i=>?_) (fun i=>?_)
 ·have i:k<ss.length:=Om
  refine QAH (E:=SLT) (xs:=ss) (s:=l) (h1:=i) (h:=fun y g=>?_);refine QAN (E:=SLT) (xs:=ss) g (h:=?_);refine QAa (E:=SLT) (xs:=ss) g (j:=1) (h:=?_);refine QAa (E:=SLT) (xs:=ss) g (j:=2) (h:=?_);refine QAL fun b=>?_;iterate 3 (refine xsq ?_)
  refine QAP ?_
  have u:(List.range (k+1)).foldl (QFh now ss) (-1)=if y.next<=now/\(d<0\/y.next<(ss.getD d.toNat default).next) then (k:Int) else d:=by
   rw[Kc,Uu,Zr,List.foldl_nil,<-m];unfold QFh;rw[g]
  refine QAV (fun(c:Bool) As'=>As'=[Blk b [.I y.every,.I y.next,.I y.fails]]/\(c=true↔(y.next<=now/\(d<0\/y.next<(ss.getD d.toNat default).next)))) (fun w e=>?_) ?_
  ·refine QAh (s:=.I) (x:=y.next) (h:=?_);refine QAB (fun h1=>QAB (fun f=>e _ _ ⟨rfl,fun _=>⟨h1,.inl f⟩,fun _=>rfl⟩) (fun f=>?_)) (fun h1=>e _ _ ⟨rfl,fun h=>(by cases h),fun h=>absurd h.1 h1⟩);refine QAh (s:=.I) (x:=y.next) (h:=?_);have f:¬(d:Int)<0:=f;obtain⟨a,r⟩:=W1 (by omega:(0:Int)<=d);rw[r]at hb|-;refine QAH (E:=SLT) (xs:=ss) (s:=l) (h1:=Om) (h:=fun z p=>?_);refine QAa (E:=SLT) (xs:=ss) p (j:=1) (h:=?_);refine e _ _ ⟨rfl,?_⟩
   have H:(ss.getD d.toNat default)=z:=by rw[r,Wh,W0,p];rfl
   simp only[H,Bool.true_and,Bool.false_or,Wq];exact⟨fun h=>⟨h1,.inr h⟩,fun h=>h.2.resolve_left f⟩
  rintro c _ ⟨rfl,hc⟩;refine QAV (fun(q:Int) As'=>As'=[Blk b [.I y.every,.I y.next,.I y.fails]]/\q=(List.range (k+1)).foldl (QFh now ss) (-1)) (fun w e=>?_) ?_
  ·refine xif (fun h=>e _ _ ⟨rfl,?_⟩) (fun h=>e _ _ ⟨rfl,?_⟩)
   ·rw[u,We (hc.1 h)]
   ·rw[u,Wb (fun A=>by rw[hc.2 A]at h;cases h)]
  rintro q _ ⟨rfl,G⟩;rw[QAE k Om];exact QAd (l:=[]) (D (ss.length - (k+1)) _ _ _ Om ⟨k+1,rfl,rfl,Om,G,rfl⟩)
 ·have:k=ss.length:=Om
  subst this;exact QAD ⟨m,rfl⟩
structure QM5 where
 has:Bool
 value:Int
 at_:Int
 deriving DecidableEq
def QJZ(a b:Int):Int:=if a>b then a - b else b - a
def QEt(dead quiet:Int)(h:QM5)(v now:Int):QM5×Bool:=
 if h.has=false then (⟨true,v,now⟩,true)
 else if QJZ v h.value>(if 0>dead then 0 else dead) then (⟨true,v,now⟩,true)
 else if quiet>0/\now>=h.at_/\QJZ now h.at_>=quiet then (⟨true,v,now⟩,true)
 else (h,false)
theorem QFP(x:Int):IntKind.u64.wrap x=x % 18446744073709551616:=by
 have a:(2 ^ IntKind.u64.bits:Int)=18446744073709551616:=Dc
 have c:IntKind.u64.signed=false:=rfl;unfold IntKind.wrap;simp only[a,c,Bool.false_and,Wi,Oa]
theorem QPZ(a b:Int)(c:i64 a)(hb:i64 b):Ct Pr 432 [.I a,.I b] .one [.int .u64] [] emp (fun t Bs=>t.1=QJZ a b/\Bs=[]):=by
 obtain⟨d,a2⟩:=c;obtain⟨e,f⟩:=hb;refine sp1 (QOu _ _) fun B _=>?_;unfold QOu mf;dsimp only;refine QAM (QAB (fun h=>?_) (fun h=>?_))
 ·refine QAD ⟨?_,rfl⟩;show IntKind.u64.wrap _=_;unfold QJZ;rw[We h,QFP,QFP,QFP];omega
 ·refine QAD ⟨?_,rfl⟩;show IntKind.u64.wrap _=_;unfold QJZ;rw[Wb h,QFP,QFP,QFP];omega
theorem QQN(dead quiet:Int)(h:QM5)(v now:Int)(G:i64 dead)(H:i64 quiet)(j:i64 h.value/\i64 h.at_)(hv:i64 v)(hn:i64 now):Ct Pr 339 [.agg #[.I dead,.I quiet],.agg #[.bool h.has,.I h.value,.I h.at_],.agg #[.I v,.I now]] (.tup [some 3,none]) [.bool,.I,.I,.bool] [] emp
  (fun t Bs=>t=((QEt dead quiet h v now).1.has,(QEt dead quiet h v now).1.value,(QEt dead quiet h v now).1.at_,(QEt dead quiet h v now).2,())/\Bs=[]):=by
 refine Qif QUt fun B _=>?_;unfold QTM;refine QAL fun b=>QAL fun p=>QAL fun q=>QAL fun a=>?_;iterate 2 (refine xgq ?_)
 refine QAL fun f=>?_;iterate 3 (refine xsq ?_)
 iterate 3 (refine xgq ?_)
 have told:∀(e:QEt dead quiet h v now=(⟨true,v,now⟩,true)) (As':List HP),Ent B (Blk f [.bool true,.I v,.I now]::Blk a [.bool false,.I 0,.I 0]::As') (QAn .bool ⟨f,0,none⟩ fun(u:Bool)=>QAn (.I) ⟨f,1,none⟩ fun(w:Int)=>QAn (.I) ⟨f,2,none⟩ fun(y:Int)=>QBE ⟨a,0,none⟩ (.bool u)<|QBE ⟨a,1,none⟩ (.I w)<|QBE ⟨a,2,none⟩ (.I y)<|QAn .bool ⟨a,0,none⟩ fun(z:Bool)=>QAn (.I) ⟨a,1,none⟩ fun(A:Int)=>QAn (.I) ⟨a,2,none⟩ fun(C:Int)=>Ret B (fun(t:Tup [.bool,.I,.I,.bool]) Bs=>t=((QEt dead quiet h v now).1.has,(QEt dead quiet h v now).1.value,(QEt dead quiet h v now).1.at_,(QEt dead quiet h v now).2,())/\Bs=[]) (z,A,C,true,())):=by
  intro e As';iterate 3 (refine xgq ?_)
  iterate 3 (refine xsq ?_)
  iterate 3 (refine xgq ?_)
  rw[e];exact QAd (l:=[]) (QAD ⟨rfl,rfl⟩)
 refine QAV (fun(c:Bool) As'=>As'=[Blk f [.bool true,.I v,.I now],Blk a [.bool false,.I 0,.I 0],Blk q [.I v,.I now],Blk p [.bool h.has,.I h.value,.I h.at_],Blk b [.I dead,.I quiet]]/\c = !h.has) (fun K g=>?_) ?_
 ·refine xif (fun h1=>g _ _ ⟨rfl,?_⟩) (fun h1=>xgq (g _ _ ⟨rfl,rfl⟩));simp at h1;rw[h1.1];rfl
 rintro c _ ⟨rfl,rfl⟩;refine xif (fun h1=>?_) (fun h1=>?_)
 ·exact told (by unfold QEt;rw[We (Si h1)]) _
 have n:¬h.has=false:=Si h1
 refine QAP (xgq (xgq (xgq ?_)));refine QAS (QPZ v h.value hv j.1) rdb ?_;rintro⟨r,_⟩ _ ⟨m,rfl⟩;obtain rfl:r=QJZ v h.value:=m;refine QA2 (ca1 (QDK (hv:=rfl) ?_))
 have o:IntKind.u64.wrap (if 0>dead then 0 else dead)=if 0>dead then 0 else dead:=by
  rw[QFP];obtain⟨D,E⟩:=G;split<;>omega
 rw[o];refine QAB (fun i=>?_) (fun i=>?_)
 ·exact told (by unfold QEt;rw[Wb n,We i]) _
 refine QAP (QAV (fun(c:Bool) As'=>As'=[Blk f [.bool true,.I v,.I now],Blk a [.bool false,.I 0,.I 0],Blk q [.I v,.I now],Blk p [.bool h.has,.I h.value,.I h.at_],Blk b [.I dead,.I quiet]]/\(c=true↔(quiet>0/\now>=h.at_/\QJZ now h.at_>=quiet))) (fun K g=>?_) ?_)
 ·refine QAh (s:=.I) (x:=quiet) (h:=?_);refine QAB (fun d=>?_) (fun d=>QBH rfl (g _ _ ⟨rfl,fun e=>(by cases e),fun e=>absurd e.1 d⟩));refine QAh (s:=.I) (x:=now) (h:=QAh (s:=.I) (x:=h.at_) (h:=?_));refine QAB (fun k=>?_) (fun k=>g _ _ ⟨rfl,fun e=>(by cases e),fun e=>absurd e.2.1 k⟩);refine QAh (s:=.I) (x:=now) (h:=QAh (s:=.I) (x:=h.at_) (h:=QAh (s:=.I) (x:=quiet) (h:=?_)));refine QAS (QPZ now h.at_ hn j.2) rdb ?_;rintro⟨r,_⟩ _ ⟨m,rfl⟩;obtain rfl:r=QJZ now h.at_:=m;refine QA2 (ca1 (QDK (hv:=rfl) ?_))
  have o:IntKind.u64.wrap quiet=quiet:=by rw[QFP];obtain⟨D,E⟩:=H;have:(0:Int)<quiet:=d;omega
  rw[o];exact g _ _ ⟨rfl,by rw[Wq];exact⟨fun e=>⟨d,k,e⟩,fun e=>e.2.2⟩⟩
 rintro c _ ⟨rfl,hc⟩;refine xif (fun d=>?_) (fun d=>?_)
 ·exact told (by unfold QEt;rw[Wb n,Wb i,We (hc.1 d)]) _
 ·iterate 3 (refine xgq ?_)
  iterate 3 (refine xsq ?_)
  iterate 3 (refine xgq ?_)
  have e:QEt dead quiet h v now=(h,false):=by
   unfold QEt;rw[Wb n,Wb i,Wb (fun j=>by rw[hc.2 j]at d;cases d)]
  rw[e];exact QAd (l:=[]) (QAD ⟨rfl,rfl⟩)
def QY6(r:Nat):Nat:=if r % 2=1 then (r / 2) ^^^ 40961 else r / 2
def QNC:Nat->Nat->Nat
 | 0,r=>r
 | k+1,r=>QY6 (QNC k r)
def QWR(r y:Nat):Nat:=QNC 8 (r ^^^ y)
def QMr(r:Nat)(a:Ab):Nat:=a.foldl (fun r y=>QWR r y.toNat) r
theorem QRT{a b:Nat}(c:a<65536)(hb:b<65536):a ^^^ b<65536:=Nat.xor_lt_two_pow (n:=16) c hb
theorem Qcb{r:Nat}(h:r<65536):QY6 r<65536:=by
 unfold QY6;split
 ·exact QRT Om Dc
 ·omega
theorem QMV:∀(k:Nat) {r:Nat},r<65536->QNC k r<65536
 | 0,_,h=>h
 | k+1,_,h=>Qcb (QMV k h)
theorem Qbz{r:Nat}(h:r<65536)(y:UInt8):QWR r y.toNat<65536:=QMV 8 (QRT h (by have:=QHm y;omega))
theorem QV8:∀(a:Ab) {r:Nat},r<65536->QMr r a<65536
 | [],_,h=>h
 | y::a,_,h=>QV8 a (Qbz h y)
theorem QX2(a:Ab)(r:Nat)(y:UInt8):QMr r (a++[y])=QWR (QMr r a) y.toNat:=by
 unfold QMr;rw[Uu];rfl
theorem QhK(n:Nat)(h:n<65536):IntKind.u16.wrap (n:Int)=n:=by
 have a:(2 ^ IntKind.u16.bits:Int)=65536:=Dc
 have c:IntKind.u16.signed=false:=rfl;simp only[IntKind.wrap,a,c,Bool.false_and];simp;omega
theorem Qhu(r:Nat):Int.fdiv (r:Int) (2 ^ (min (Int.toNat 1) 16))=((r / 2:Nat):Int):=QC7 r _ 2 Dc
theorem QX4(r:Nat)(h:r<65536):(if (bits .and .u16 (r:Int) 1 == 1)=true then bits .xor .u16 (Int.fdiv (r:Int) (2 ^ (min (Int.toNat 1) 16))) 40961 else Int.fdiv (r:Int) (2 ^ (min (Int.toNat 1) 16)))=((QY6 r:Nat):Int):=by
 have a:bits .and .u16 (r:Int) 1=((r % 2:Nat):Int):=by
  have:=u16_and_nat r 1 h Dc;rw[Nat.and_one_is_mod]at this;exact this
 rw[a,Qhu];unfold QY6;by_cases g:r % 2=1
 ·rw[We (by rw[g];rfl),We g];exact u16_xor_nat (r / 2) 40961 Om Dc
 ·rw[Wb (by simp;omega),Wb g]
theorem QUm(a:Nat)(hc:a<65536)(b:Sl)(xs:Ab)(G:xs.length<=140737488351232):Ct Pr 347 [.int .u16 (a:Int),b.v] .one [.int .u16] [] (RAr U8 b xs) (fun t Bs=>t.1=(QMr a xs:Int)/\Bs=[]):=by
 refine sp1 (QM8 _ _) fun B f=>?_;have D:Fro B b U8 xs:=⟨f⟩;have hb:=f.1;unfold QM8 mf;dsimp only;refine QBt (fun(n:Nat) (r:Int) (i:Int) As=>∃k:Nat,i=(k:Int)/\r=(QMr a (xs.take k):Int)/\n=xs.length - k/\k<=xs.length/\As=[]) xs.length ⟨0,rfl,rfl,rfl,Om,rfl⟩ ?_;rintro n _ _ _ K ⟨k,rfl,rfl,rfl,A,rfl⟩ u;have m:=QV8 (xs.take k) hc
 have c:k<xs.length->QMr a (xs.take (k+1))=QWR (QMr a (xs.take k)) (xs.getD k 0).toNat:=fun h=>by
  rw[Og,Wa h];show QMr _ (xs.take k++[xs[k]])=_;rw[QX2,W0,Wa h];rfl
 generalize p:QMr a (xs.take k)=r at *
 refine QAB (fun h=>?_) (fun h=>?_)
 ·have e:k<xs.length:=Om
  have hx:=Wa e;have E:=QHm xs[k];have c:=c e;rw[W0,hx]at c;simp only[Uy]at c
  generalize xs[k]=y at *
  refine QAH (h1:=e) (h:=fun _ _=>?_);refine QAN hx (h:=?_)
  have w:bits .xor .u16 (r:Int) (IntKind.u16.wrap (y.toNat:Int))=((r ^^^ y.toNat:Nat):Int):=by
   rw[QhK y.toNat Om];exact u16_xor_nat r y.toNat m Om
  rw[w];have x:r ^^^ y.toNat<65536:=QRT m Om;refine QBt (fun(n:Nat) (s:Int) (i:Int) As=>∃j:Nat,i=(j:Int)/\s=(QNC j (r ^^^ y.toNat):Int)/\n=8 - j/\j<=8/\As=[]) 8 ⟨0,rfl,rfl,rfl,Om,rfl⟩ ?_;rintro n _ _ _ C ⟨j,rfl,rfl,rfl,hj,rfl⟩ l;have z:=QMV j x;refine QAB (fun h=>?_) (fun h=>?_)
  ·have o:QNC (j+1) (r ^^^ y.toNat)=QY6 (QNC j (r ^^^ y.toNat)):=rfl
   generalize QNC j (r ^^^ y.toNat)=q at *
   have d:=QX4 q z;refine QBA Dc (QAM ?_);rw[QAE j Om];refine xif (fun g=>?_) (fun g=>?_)
   ·rw[We g]at d;rw[d];exact l (8 - (j+1)) _ _ _ Om ⟨j+1,rfl,by rw[o],rfl,Om,rfl⟩
   ·rw[Wb (by rw[g];simp)]at d;rw[d];exact l (8 - (j+1)) _ _ _ Om ⟨j+1,rfl,by rw[o],rfl,Om,rfl⟩
  ·have:j=8:=Om
   subst this;rw[QAE k Om];refine u (xs.length - (k+1)) _ _ _ Om ⟨k+1,rfl,?_,rfl,Om,rfl⟩;rw[c];rfl
 ·have:k=xs.length:=Om
  subst this;rw[Uk]at p;refine QAD ⟨?_,rfl⟩;rw[p]
def QFr(xs:Ab):Nat:=QMr 65535 xs
theorem QO2(b:Sl)(xs:Ab)(c:xs.length<=140737488351232):Ct Pr 248 [b.v] .one [.int .u16] [] (RAr U8 b xs) (fun t Bs=>t.1=(QFr xs:Int)/\Bs=[]):=by
 refine sp1 (QOe _) fun B a=>?_;have d:Fro B b U8 xs:=⟨a⟩;unfold QOe mf;dsimp only;refine xcl (QUm 65535 Dc b xs c) rdb ?_;rintro⟨r,_⟩ _ ⟨h,rfl⟩;exact QA2 (ca1 (QAD ⟨h,rfl⟩))
def QZE(c:Nat):Ab:=[UInt8.ofNat c,UInt8.ofNat (c / 256)]
def QZR(c:Nat):Ab:=[UInt8.ofNat c,UInt8.ofNat (c / 256),UInt8.ofNat (c / 65536),UInt8.ofNat (c / 16777216)]
def QN6(xs:Ab):Ab:=xs++QZE (QFr xs)
def QLB(xs:Ab):Ab:=xs++QZR (QFg 0 xs)
def QC5(xs:Ab):Int×Ab:=
 if xs.length<2 then (1,[]) else if xs.drop (xs.length - 2)=QZE (QFr (xs.take (xs.length - 2))) then (0,xs.take (xs.length - 2)) else (5,[])
def QDw(xs:Ab):Int×Ab:=
 if xs.length<4 then (1,[]) else if xs.drop (xs.length - 4)=QZR (QFg 0 (xs.take (xs.length - 4))) then (0,xs.take (xs.length - 4)) else (5,[])
theorem QUu(b:Sl)(xs:Ab)(j:xs.length<=1000000):Ct Pr 169 [b.v] .one [.slice] [] (RAr U8 b xs) (fun t Bs=>Bs=[Ar U8 t.1 (QN6 xs)]):=by
 refine sp1 (QMp _) fun B e=>?_;have i:Fro B b U8 xs:=⟨e⟩;unfold QMp mf;dsimp only;refine xcl (QO2 b xs Om) rdb ?_;rintro⟨r,_⟩ _ ⟨h,rfl⟩;obtain rfl:r=(QFr xs:Int):=h;refine QA2 (ca1 (QAL fun c=>?_));refine QAg (Q:=Ar U8 ⟨some ⟨c,0,none⟩,0,0⟩ []) 0 (fun g a=>⟨[],QAp [] 0 rfl rfl a⟩) ?_;refine QHU (E:=U8) (s:=⟨some ⟨c,0,none⟩,0,0⟩) (y:=b) (hb:=by simp;omega) (h:=fun s=>?_);refine QBA Dc ?_;rw[QC7 (QFr xs) _ 256 Dc,QAu,QAu];refine QAL fun d=>?_;refine QAg (Q:=Ar U8 ⟨some ⟨d,0,none⟩,2,2⟩ (QZE (QFr xs))) 0 (fun g a=>⟨[],QAp (QZE (QFr xs)) 2 rfl rfl a⟩) ?_;refine QHU (E:=U8) (s:=s) (y:=⟨some ⟨d,0,none⟩,2,2⟩) (hb:=by simp[QZE];omega) (h:=fun f=>?_);rw[W6];exact QAK [Ar U8 f (xs++QZE (QFr xs))] (QAD rfl)
theorem QUG(b:Sl)(xs:Ab)(j:xs.length<=1000000):Ct Pr 156 [b.v] .one [.slice] [] (RAr U8 b xs) (fun t Bs=>Bs=[Ar U8 t.1 (QLB xs)]):=by
 refine sp1 (QMX _) fun B e=>?_;have i:Fro B b U8 xs:=⟨e⟩;unfold QMX mf;dsimp only;refine xcl (QQ1 b xs Om) rdb ?_;rintro⟨r,_⟩ _ ⟨h,rfl⟩;obtain rfl:r=(QFg 0 xs:Int):=h;refine QA2 (ca1 (QAL fun c=>?_));refine QAg (Q:=Ar U8 ⟨some ⟨c,0,none⟩,0,0⟩ []) 0 (fun g a=>⟨[],QAp [] 0 rfl rfl a⟩) ?_;refine QHU (E:=U8) (s:=⟨some ⟨c,0,none⟩,0,0⟩) (y:=b) (hb:=by simp;omega) (h:=fun s=>?_);refine QBA Dc (QBA Dc (QBA Dc ?_));rw[QC7 (QFg 0 xs) (2 ^ (min (Int.toNat 8) 32)) 256 Dc,QC7 (QFg 0 xs) (2 ^ (min (Int.toNat 16) 32)) 65536 Dc,QC7 (QFg 0 xs) (2 ^ (min (Int.toNat 24) 32)) 16777216 Dc,QAu,QAu,QAu,QAu];refine QAL fun d=>?_;refine QAg (Q:=Ar U8 ⟨some ⟨d,0,none⟩,4,4⟩ (QZR (QFg 0 xs))) 0 (fun g a=>⟨[],QAp (QZR (QFg 0 xs)) 4 rfl rfl a⟩) ?_;refine QHU (E:=U8) (s:=s) (y:=⟨some ⟨d,0,none⟩,4,4⟩) (hb:=by simp[QZR];omega) (h:=fun f=>?_);rw[W6];exact QAK [Ar U8 f (xs++QZR (QFg 0 xs))] (QAD rfl)
theorem QOE{y:UInt8}{c:Nat}:(((y.toNat:Int) != ((UInt8.ofNat c).toNat:Int))=false)↔y=UInt8.ofNat c:=by
 simp only[K7,Int.natCast_inj];exact⟨fun h=>Z8.1 h,fun h=>by rw[h]⟩
theorem QT1(b:Sl)(xs:Ab)(J:xs.length<=1000000)(L:b.n<=b.c):Ct Pr 158 [b.v] (.tup [none,none]) [.slice,.I] [] (RAr U8 b xs)
  (fun t Bs=>t.2.1=(QC5 xs).1/\Bs=[Ar U8 t.1 (QC5 xs).2]):=by
 refine sp2 (QNv _) fun B a=>?_;have C:Fro B b U8 xs:=⟨a⟩;have hb:=a.1;unfold QNv mf;dsimp only;rw[QAC ((b.n:Int) - 2) Om Om];refine QAB (fun h=>?_) (fun h=>?_)
 ·refine QAf U8 (QAD ?_);unfold QC5;rw[We Om];exact⟨rfl,rfl⟩
 obtain⟨k,A⟩:∃k:Nat,xs.length=k+2:=⟨xs.length - 2,Om⟩
 have u:(b.n:Int) - 2=(k:Int):=Om
 rw[u,QAC ((k:Int)+1) Om Om,show ((k:Int)+1)=((k+1:Nat):Int) by omega]
 have j:QC5 xs=if xs.drop k=QZE (QFr (xs.take k)) then (0,xs.take k) else (5,[]):=by
  unfold QC5;rw[Wb Om,show xs.length - 2=k by omega]
 have D:Fro B (b.cut 0 k b.c 1) U8 (xs.take k):=⟨by have:=a.cut 0 k b.c Om Om Om;rw[Kk]at this;exact this⟩;refine QEi Om Om Om Om ?_;simp only[Wh,Z1];refine xcl (QO2 (b.cut 0 k b.c 1) (xs.take k) (by simp;omega)) rdb ?_;rintro⟨r,_⟩ _ ⟨q,rfl⟩;obtain rfl:r=(QFr (xs.take k):Int):=q;refine QA2 (ca1 ?_);have w:=Wa (l:=xs) (i:=k) Om;have x:=Wa (l:=xs) (i:=k+1) Om
 have m:xs.drop k=[xs[k],xs[k+1]]:=by
  rw[Ws Om,Ws Om,Zh Om]
 generalize xs[k]=G at *
 generalize xs[k+1]=H at *
 rw[QC7 (QFr (xs.take k)) _ 256 Dc,QAu,QAu];refine QAH (k:=k) (h1:=Om) (h:=fun _ _=>?_);refine QAN w (h:=?_);refine QAV (fun(c:Bool) As'=>As'=[]/\(c=false↔xs.drop k=QZE (QFr (xs.take k)))) (fun K d=>?_) ?_
 ·refine xif (fun h1=>d _ _ ⟨rfl,?_⟩) (fun h1=>?_)
  ·rw[m];refine⟨fun e=>(by cases e),fun e=>?_⟩;simp only[QZE,List.cons.injEq]at e;rw[QOE.2 e.1]at h1;cases h1
  ·refine QAH (k:=k+1) (h1:=Om) (h:=fun _ _=>?_);refine QAN x (h:=QBA Dc (d _ _ ⟨rfl,?_⟩));have z:=QOE.1 h1;rw[QOE,m];simp only[QZE,List.cons.injEq,and_true];exact⟨fun e=>⟨z,e⟩,fun e=>e.2⟩
 rintro c _ ⟨rfl,hc⟩;refine xif (fun h1=>?_) (fun h1=>?_)
 ·refine QAf U8 (QAD ?_);rw[j,Wb (fun e=>by rw[hc.2 e]at h1;cases h1)];exact⟨rfl,rfl⟩
 ·rw[j,We (hc.1 h1)];refine QAL fun f=>?_;refine QAg (Q:=Ar U8 ⟨some ⟨f,0,none⟩,0,0⟩ []) 0 (fun g o=>⟨[],QAp [] 0 rfl rfl o⟩) ?_;refine QEi Om Om Om Om ?_;simp only[Wh,Z1];refine QHU (E:=U8) (s:=⟨some ⟨f,0,none⟩,0,0⟩) (y:=b.cut 0 k b.c 1) (hb:=by simp;omega) (h:=fun p=>?_);rw[W6];exact QAK [Ar U8 p (xs.take k)] (QAD ⟨rfl,rfl⟩)
theorem QUO(b:Sl)(xs:Ab)(M:xs.length<=1000000)(N:b.n<=b.c):Ct Pr 98 [b.v] (.tup [none,none]) [.slice,.I] [] (RAr U8 b xs)
  (fun t Bs=>t.2.1=(QDw xs).1/\Bs=[Ar U8 t.1 (QDw xs).2]):=by
 refine sp2 (QNu _) fun B a=>?_;have C:Fro B b U8 xs:=⟨a⟩;have hb:=a.1;unfold QNu mf;dsimp only;rw[QAC ((b.n:Int) - 4) Om Om];refine QAB (fun h=>?_) (fun h=>?_)
 ·refine QAf U8 (QAD ?_);unfold QDw;rw[We Om];exact⟨rfl,rfl⟩
 obtain⟨k,A⟩:∃k:Nat,xs.length=k+4:=⟨xs.length - 4,Om⟩
 have q:(b.n:Int) - 4=(k:Int):=Om
 rw[q,QAC ((k:Int)+1) Om Om,QAC ((k:Int)+2) Om Om,QAC ((k:Int)+3) Om Om,show ((k:Int)+1)=((k+1:Nat):Int) by omega,show ((k:Int)+2)=((k+2:Nat):Int) by omega,show ((k:Int)+3)=((k+3:Nat):Int) by omega]
 have f:QDw xs=if xs.drop k=QZR (QFg 0 (xs.take k)) then (0,xs.take k) else (5,[]):=by
  unfold QDw;rw[Wb Om,show xs.length - 4=k by omega]
 have D:Fro B (b.cut 0 k b.c 1) U8 (xs.take k):=⟨by have:=a.cut 0 k b.c Om Om Om;rw[Kk]at this;exact this⟩;refine QEi Om Om Om Om ?_;simp only[Wh,Z1];refine xcl (QQ1 (b.cut 0 k b.c 1) (xs.take k) (by simp;omega)) rdb ?_;rintro⟨r,_⟩ _ ⟨p,rfl⟩;obtain rfl:r=(QFg 0 (xs.take k):Int):=p;refine QA2 (ca1 ?_);have u:=Wa (l:=xs) (i:=k) Om;have w:=Wa (l:=xs) (i:=k+1) Om;have x:=Wa (l:=xs) (i:=k+2) Om;have z:=Wa (l:=xs) (i:=k+3) Om
 have j:xs.drop k=[xs[k],xs[k+1],xs[k+2],xs[k+3]]:=by
  rw[Ws Om,Ws Om,Ws Om,Ws Om,Zh Om]
 generalize xs[k]=G at *
 generalize xs[k+1]=H at *
 generalize xs[k+2]=J at *
 generalize xs[k+3]=L at *
 rw[QC7 (QFg 0 (xs.take k)) (2 ^ (min (Int.toNat 8) 32)) 256 Dc,QC7 (QFg 0 (xs.take k)) (2 ^ (min (Int.toNat 16) 32)) 65536 Dc,QC7 (QFg 0 (xs.take k)) (2 ^ (min (Int.toNat 24) 32)) 16777216 Dc,QAu,QAu,QAu,QAu];refine QAH (k:=k) (h1:=Om) (h:=fun _ _=>?_);refine QAN u (h:=?_);refine QUr (fun K h=>QAH (k:=k+1) (h1:=Om) (h:=fun _ _=>QAN w (h:=QBA Dc h))) ?_;refine QUr (fun K h=>QAH (k:=k+2) (h1:=Om) (h:=fun _ _=>QAN x (h:=QBA Dc h))) ?_;refine QUr (fun K h=>QAH (k:=k+3) (h1:=Om) (h:=fun _ _=>QAN z (h:=QBA Dc h))) ?_;refine xif (fun h1=>?_) (fun h1=>?_)
 ·refine QAf U8 (QAD ?_);rw[f,Wb (fun e=>?_)]
  ·exact⟨rfl,rfl⟩
  ·rw[j]at e;simp only[QZR,List.cons.injEq,and_true]at e;rw[QOE.2 e.1,QOE.2 e.2.1,QOE.2 e.2.2.1,QOE.2 e.2.2.2]at h1;cases h1
 ·simp only[O0,QOE]at h1;rw[f,We (by rw[j,h1.1.1.1,h1.1.1.2,h1.1.2,h1.2];rfl)];refine QAL fun d=>?_;refine QAg (Q:=Ar U8 ⟨some ⟨d,0,none⟩,0,0⟩ []) 0 (fun g m=>⟨[],QAp [] 0 rfl rfl m⟩) ?_;refine QEi Om Om Om Om ?_;simp only[Wh,Z1];refine QHU (E:=U8) (s:=⟨some ⟨d,0,none⟩,0,0⟩) (y:=b.cut 0 k b.c 1) (hb:=by simp;omega) (h:=fun o=>?_);rw[W6];exact QAK [Ar U8 o (xs.take k)] (QAD ⟨rfl,rfl⟩)
def QGG(n:Nat):Int:=if n=0 then 1 else if n>253 then 2 else 0
def QVG(u:UInt8):Bool:=decide (1<=u.toNat)&&decide (u.toNat<=247)
def QTp(u:UInt8)(pdu:Ab):Int×Ab:=if QVG u=false then (24,[]) else if QGG pdu.length≠0 then (QGG pdu.length,[]) else (0,QN6 (u::pdu))
def QAZ(xs:Ab):Int×UInt8×Ab:=
 if xs.length<4 then (1,0,[]) else if xs.length>256 then (2,0,[]) else
 if (QC5 xs).1≠0 then ((QC5 xs).1,0,[]) else if QVG ((QC5 xs).2.headD 0)=false then (24,0,[]) else (0,(QC5 xs).2.headD 0,(QC5 xs).2.tail)
theorem QMa(u:UInt8):Ct Pr 159 [.int .u8 u.toNat] .one [.bool] [] emp (fun t Bs=>t.1=QVG u/\Bs=[]):=by
 refine sp1 (QK5 _) fun B _=>?_;unfold QK5 mf;dsimp only;refine QAD ⟨?_,rfl⟩;show (decide ((u.toNat:Int)>=1)&&decide ((u.toNat:Int)<=247))=_;unfold QVG;congr 1<;>exact decide_eq_decide.2 Om
theorem QUC(s:Sl):Ct Pr 168 [s.v] .one [.I] [] emp (fun t Bs=>t.1=QGG s.n/\Bs=[]):=by
 refine sp1 (QNZ _) fun B _=>?_;unfold QNZ mf;dsimp only;unfold QGG;refine xif (fun h=>QAD ⟨?_,rfl⟩) (fun h=>xif (fun a=>QAD ⟨?_,rfl⟩) (fun a=>QAD ⟨?_,rfl⟩))
 ·rw[We (by simp at h;omega)]
 ·rw[Wb (by simp at h;omega),We (by simp at a;omega)]
 ·rw[Wb (by simp at h;omega),Wb (by simp at a;omega)]
theorem QWk(u:UInt8)(s:Sl)(pdu:Ab):Ct Pr 107 [.int .u8 u.toNat,s.v] (.tup [none,none]) [.slice,.I] [] (RAr U8 s pdu) (fun t Bs=>t.2.1=(QTp u pdu).1/\Bs=[Ar U8 t.1 (QTp u pdu).2]):=by
 refine sp2 (QR0 _ _) fun B a=>?_;have o:Fro B s U8 pdu:=⟨a⟩;have j:=a.1;unfold QR0 mf;dsimp only;refine QAS (QMa u) rdb ?_;rintro⟨c,_⟩ _ ⟨hc,rfl⟩;obtain rfl:c=QVG u:=hc;unfold QTp;refine QA2 (ca1 (xif (fun h=>?_) (fun h=>?_)))
 ·rw[We (Si h)];exact QAf U8 (QAD ⟨rfl,rfl⟩)
 rw[Wb (Si h)];refine QAS (QUC s) rdb ?_;rintro⟨r,_⟩ _ ⟨g,rfl⟩;obtain rfl:r=QGG s.n:=g;rw[<-j];refine QA2 (ca1 (xif (fun h=>?_) (fun h=>?_)))
 ·rw[We (Si h)];exact QAf U8 (QAD ⟨rfl,rfl⟩)
 rw[Wb (Si h)]
 have hl:1<=pdu.length/\pdu.length<=253:=by
  have:QGG pdu.length=0:=Si h
  unfold QGG at this;split at this
  ·cases this
  ·split at this
   ·cases this
   ·omega
 rw[QAC _ Om Om,show (1+(pdu.length:Int))=((1+pdu.length:Nat):Int) by omega];refine QTF U8 Om (by simp;omega) (h:=fun b=>?_);simp only[Wh];refine QAH (E:=U8) (xs:=List.replicate (1+pdu.length) U8.zero) (s:=⟨some ⟨b,0,none⟩,1+pdu.length,1+pdu.length⟩) (k:=0) (h1:=by simp;omega) (h:=fun y d=>?_);refine QIJ (E:=U8) u d (hv:=rfl) (h:=?_)
 have l:(List.replicate (1+pdu.length) U8.zero).set 0 u=u::List.replicate pdu.length 0:=by
  rw[Nat.add_comm,K8,Ld];rfl
 rw[l];refine QEi Om (by show (1:Int)<=((1+pdu.length:Nat):Int);omega) (by show ((1+pdu.length:Nat):Int)<=((1+pdu.length:Nat):Int);omega) (by show ((1+pdu.length:Nat):Int)<=((1+pdu.length:Nat):Int);omega) ?_;simp only[Wh,Int.toNat_one];refine Qhx 0 fun zs h1 e=>?_
 have m:zs=[]:=by
  simp at h1 e;exact Zw.1 Om
 subst m;refine QSW (E:=U8) (s:=⟨some ⟨b,0,none⟩,1+pdu.length,1+pdu.length⟩) (y:=s) (ys:=pdu) (fun w f=>(inferInstance:RdA B _ s U8 pdu).rd w f) (u::pdu) [] (hrm:=Wt _) (hlk:=by simp;omega) (hl:=by simp) (he:=by simp;omega) (h:=fun n=>?_);refine xar ?_;refine xcl (QUu ⟨some ⟨b,0,none⟩,1+pdu.length,1+pdu.length⟩ (u::pdu) (by simp;omega)) rdb ?_;rintro⟨i,_⟩ _ rfl;refine QAz (ca1 ?_);exact QAK [Ar U8 i (QN6 (u::pdu))] (QAD ⟨rfl,rfl⟩)
theorem QHl(s:Sl)(xs:Ab)(C:s.n<=s.c):Ct Pr 104 [s.v] (.tup [none,none,none]) [.int .u8,.slice,.I] [] (RAr U8 s xs)
  (fun t Bs=>t.1=(QAZ xs).2.1.toNat/\t.2.2.1=(QAZ xs).1/\Bs=[Ar U8 t.2.1 (QAZ xs).2.2]):=by
 refine sp3 (QJr _) fun B j=>?_;have G:Fro B s U8 xs:=⟨j⟩;have H:=j.1;unfold QJr mf;dsimp only;unfold QAZ;refine QAB (fun h=>?_) (fun h=>?_)
 ·rw[We Om];exact QAf U8 (QAD ⟨rfl,rfl,rfl⟩)
 rw[Wb Om];refine QAB (fun p=>?_) (fun p=>?_)
 ·rw[We Om];exact QAf U8 (QAD ⟨rfl,rfl,rfl⟩)
 rw[Wb Om];refine QAS (QT1 s xs Om C) rdb ?_;rintro⟨a,r,_⟩ _ ⟨z,rfl⟩;obtain rfl:r=(QC5 xs).1:=z;refine QAz (ca2 (xif (fun d=>?_) (fun d=>?_)))
 ·rw[We (Si d)];exact QAf U8 (QAK [Ar U8 ⟨none,0,0⟩ []] (QAD ⟨rfl,rfl,rfl⟩))
 have e:(QC5 xs).1=0:=Si d
 rw[Wb (Si d)]
 have o:2<=(QC5 xs).2.length:=by
  unfold QC5 at e |-;rw[Wb Om]at e |-;split at e
  ·rename_i w;rw[We w];simp;omega
  ·cases e
 generalize (QC5 xs).2=l at o
 obtain⟨y,l,rfl⟩:∃y m,l=y::m:=by cases l with|nil=>simp at o|cons y m=>exact⟨y,m,rfl⟩
 refine QCl (E:=U8) (xs:=y::l) a fun q D=>?_;refine QAH (E:=U8) (xs:=y::l) (s:=a) (k:=0) (h1:=by simp) (h:=fun _ _=>?_);refine QAN (E:=U8) (xs:=y::l) (i:=0) (x:=y) rfl (h:=?_);refine QAS (QMa y) rdb ?_;rintro⟨c,_⟩ _ ⟨hc,rfl⟩;obtain rfl:c=QVG y:=hc;refine QA2 (ca1 (xif (fun f=>?_) (fun f=>?_)))
 ·rw[We (Si f)];exact QAf U8 (QAK [Ar U8 ⟨none,0,0⟩ []] (QAD ⟨rfl,rfl,rfl⟩))
 rw[Wb (Si f)];refine QAP ?_;refine QAH (E:=U8) (xs:=y::l) (s:=a) (k:=0) (h1:=by simp) (h:=fun _ _=>?_);refine QAN (E:=U8) (xs:=y::l) (i:=0) (x:=y) rfl (h:=?_)
 have J:l.length+1=a.n:=Si q
 refine QEi Om Om Om Om ?_;simp only[Wh,Int.toNat_one];refine QAg (Q:=Ar U8 (a.cut 1 a.n a.c 1) l) 0 (fun g u=>?_) (QAD ⟨rfl,rfl,rfl⟩);obtain⟨zs,A⟩:=u;exact⟨zs,Ars.dropc A 1 (by simp)⟩
theorem QGB{α:Type}{xs:List α}{k:Nat}{x:α}(h:xs[k]? = some x):xs.take k++[x]=xs.take (k+1):=by
 rw[Og,h];rfl
def QCr(v:Int):Ab:=[UInt8.ofNat (v.toNat / 256),UInt8.ofNat v.toNat]
theorem QVx(s:Sl)(xs:Ab)(l:Sl)(vs:Ae)(hv:∀v∈vs,0<=v/\v<=65535)(hx:xs.length<=100000)(hl:vs.length<=100000):Ct Pr 170 [s.v,l.v] .one [.slice] [Ar U8 s xs] (RAr I64 l vs) (fun t Bs=>Bs=[Ar U8 t.1 (xs++vs.flatMap QCr)]):=by
 refine sp1 (QaA _ _) fun B j=>?_;haveI:Fro B l I64 vs:=⟨j⟩;have hn:vs.length=l.n:=j.1;unfold QaA mf;dsimp only;refine QBt (fun n (c:Sl) (x:Int) As'=>∃k:Nat,x=(k:Int)/\n=vs.length - k/\k<=vs.length/\As'=[Ar U8 c (xs++(vs.take k).flatMap QCr)]) vs.length ⟨0,rfl,rfl,Om,by simp⟩ ?_;rintro n c x As' K ⟨k,rfl,rfl,A,rfl⟩ r
 have w:((vs.take k).flatMap QCr).length=2*k:=by
  rw[List.length_flatMap]
  have:(vs.take k).map (fun a=>(QCr a).length)=List.replicate k 2:=by
   apply List.ext_getElem
   ·simp;omega
   ·intro i h1 z;simp[QCr]
  rw[this];simp;omega
 refine QAB (fun d=>?_) (fun d=>?_)
 ·have d:k<vs.length:=Om
  refine QAH (E:=I64) (xs:=vs) (s:=l) (h1:=d) (h:=fun y f=>?_);refine QAN (E:=I64) (xs:=vs) f (h:=QBA Dc ?_);obtain⟨u,C⟩:=hv y (Wp f);obtain⟨m,rfl⟩:=W1 u;rw[QC7 m _ 256 Dc,QAu,QAu];refine QAL fun o=>?_;refine QAg (Q:=Ar U8 ⟨some ⟨o,0,none⟩,2,2⟩ (QCr (m:Int))) 0 (fun g p=>⟨[],QAp (QCr (m:Int)) 2 rfl rfl p⟩) ?_;refine QHU (E:=U8) (s:=c) (y:=⟨some ⟨o,0,none⟩,2,2⟩) (hb:=by simp[QCr,w];omega) (h:=fun q=>?_);rw[QAE k Om,Wk]
  have e:(vs.take k).flatMap QCr++QCr (m:Int)=(vs.take (k+1)).flatMap QCr:=by
   rw[<-QGB f,Zf];simp
  rw[e];exact QAK [Ar U8 q (xs++(vs.take (k+1)).flatMap QCr)] (r (vs.length - (k+1)) _ _ _ Om ⟨k+1,rfl,rfl,Om,rfl⟩)
 ·rw[Wn Om];exact QAD rfl
def QRP(code:Int):Bool:=(((code == 5)||(code == 6))||(code == 15))||(code == 16)
theorem QNV(code addr count:Int)(on set ps:Sl):Ct Pr 109 [.agg #[.I code,.I addr,.I count,on.v,set.v,ps.v]] .one [.bool] [] emp (fun t Bs=>t.1=QRP code/\Bs=[]):=by
 refine sp1 (QOt _ _ _ _ _ _) fun B _=>?_;unfold QOt mf;dsimp only;refine QAL fun b=>QAh (s:=.I) (x:=code) (h:=?_);refine QUr (fun K h=>QAh (s:=.I) (x:=code) (h:=h)) ?_;refine QUr (fun K h=>QAh (s:=.I) (x:=code) (h:=h)) ?_;refine QUr (fun K h=>QAh (s:=.I) (x:=code) (h:=h)) ?_;exact QAd (l:=[]) (QAD ⟨rfl,rfl⟩)
def QIZ(xs:Ab):Int:=
 let c:=(xs.getD 0 0).toNat
 if c=20/\xs.length<2\/15<=c/\c<20/\xs.length<6 then 1 else
 let n:=if c=20 then 2+(xs.getD 1 0).toNat else if 15<=c then 6+(xs.getD 5 0).toNat else 5
 if xs.length<n then 1 else if xs.length>n then 2 else 0
theorem QTx(b:Sl)(xs:Ab)(h1:1<=xs.length)(hc:(xs.getD 0 0).toNat<=20)(Q:xs.length<=1000000):Ct Pr 161 [b.v] .one [.I] [] (RAr U8 b xs) (fun t Bs=>t.1=QIZ xs/\Bs=[]):=by
 refine sp1 (QTg _) fun B w=>?_;haveI:Fro B b U8 xs:=⟨w⟩;have hn:xs.length=b.n:=w.1;unfold QTg mf;dsimp only;have e:=Wa (l:=xs) (i:=0) Om
 have x:xs.getD 0 0=xs[0]:=by rw[W0,e];rfl
 rw[x]at hc
 generalize xs[0]=a at *
 have p:QIZ xs=(if a.toNat=20/\xs.length<2\/15<=a.toNat/\a.toNat<20/\xs.length<6 then 1 else
   if xs.length<(if a.toNat=20 then 2+(xs.getD 1 0).toNat else if 15<=a.toNat then 6+(xs.getD 5 0).toNat else 5) then 1 else if xs.length>(if a.toNat=20 then 2+(xs.getD 1 0).toNat else if 15<=a.toNat then 6+(xs.getD 5 0).toNat else 5) then 2 else 0):=by
  unfold QIZ;rw[x]
 refine QAH (E:=U8) (xs:=xs) (s:=b) (k:=0) (h1:=h1) (h:=fun _ _=>?_);refine QAN (E:=U8) (xs:=xs) e (h:=?_);refine QAV (fun(c:Bool) As'=>As'=[]/\(c=true↔(a.toNat=20/\xs.length<2\/15<=a.toNat/\a.toNat<20/\xs.length<6))) (fun K g=>?_) ?_
 ·refine xif (fun h=>g _ _ ⟨rfl,?_⟩) (fun h=>?_)
  ·simp at h|-;omega
  ·refine QAH (E:=U8) (xs:=xs) (s:=b) (k:=0) (h1:=h1) (h:=fun _ _=>?_);refine QAN (E:=U8) (xs:=xs) e (h:=?_);refine QAV (fun(c:Bool) As'=>As'=[]/\(c=true↔(15<=a.toNat/\a.toNat<20))) (fun D j=>?_) ?_
   ·refine QAB (fun d=>?_) (fun d=>j _ _ ⟨rfl,by simp;omega⟩);refine QAH (E:=U8) (xs:=xs) (s:=b) (k:=0) (h1:=h1) (h:=fun _ _=>?_);refine QAN (E:=U8) (xs:=xs) e (h:=j _ _ ⟨rfl,?_⟩);rw[Wq];omega
   rintro c _ ⟨rfl,o⟩;refine g _ _ ⟨rfl,?_⟩;rw[Wf,Wq,o];simp at h;omega
 rintro c _ ⟨rfl,o⟩;refine xif (fun h=>QAD ⟨?_,rfl⟩) (fun h=>?_)
 ·rw[p,We (o.1 h)]
 have H:¬(a.toNat=20/\xs.length<2\/15<=a.toNat/\a.toNat<20/\xs.length<6):=fun G=>by rw[o.2 G]at h;cases h
 rw[Wb H]at p;refine QAH (E:=U8) (xs:=xs) (s:=b) (k:=0) (h1:=h1) (h:=fun _ _=>?_);refine QAN (E:=U8) (xs:=xs) e (h:=?_);generalize f:(if a.toNat=20 then 2+(xs.getD 1 0).toNat else if 15<=a.toNat then 6+(xs.getD 5 0).toNat else 5)=n at p;have N:=QHm a;refine QAV (fun(m:Int) As'=>As'=[]/\m=(n:Int)) (fun K g=>?_) ?_
 ·refine xif (fun d=>?_) (fun d=>?_)
  ·have u:a.toNat=20:=by simp at d;omega
   have y:=Wa (l:=xs) (i:=1) Om
   have J:xs.getD 1 0=xs[1]'Om:=by rw[W0,y];rfl
   rw[J]at f
   generalize xs[1]'Om=A at *
   have O:=QHm A;refine QAH (E:=U8) (xs:=xs) (s:=b) (k:=1) (h1:=Om) (h:=fun _ _=>?_);refine QAN (E:=U8) (xs:=xs) y (h:=g _ _ ⟨rfl,?_⟩);rw[QAC (A.toNat:Int) Om Om,QAC _ Om Om];rw[We u]at f;omega
  ·have u:a.toNat≠20:=by simp at d;omega
   rw[Wb u]at f;refine QAH (E:=U8) (xs:=xs) (s:=b) (k:=0) (h1:=h1) (h:=fun _ _=>?_);refine QAN (E:=U8) (xs:=xs) e (h:=?_);refine QAV (fun(m:Int) As'=>As'=[]/\m=(n:Int)) (fun D j=>?_) ?_
   ·refine QAB (fun q=>?_) (fun q=>j _ _ ⟨rfl,?_⟩)
    ·have L:15<=a.toNat:=Om
     rw[We L]at f;have z:=Wa (l:=xs) (i:=5) Om
     have M:xs.getD 5 0=xs[5]'Om:=by rw[W0,z];rfl
     rw[M]at f
     generalize xs[5]'Om=C at *
     have P:=QHm C;refine QAH (E:=U8) (xs:=xs) (s:=b) (k:=5) (h1:=Om) (h:=fun _ _=>?_);refine QAN (E:=U8) (xs:=xs) z (h:=j _ _ ⟨rfl,?_⟩);rw[QAC (C.toNat:Int) Om Om,QAC _ Om Om];omega
    ·rw[Wb Om]at f;omega
   rintro m _ ⟨rfl,r⟩;exact g _ _ ⟨rfl,r⟩
 rintro m _ ⟨rfl,r⟩;obtain rfl:m=(n:Int):=r;rw[p];refine QAB (fun d=>QAD ⟨?_,rfl⟩) (fun d=>QAB (fun q=>QAD ⟨?_,rfl⟩) (fun q=>QAD ⟨?_,rfl⟩))
 ·rw[We Om]
 ·rw[Wb Om,We Om]
 ·rw[Wb Om,Wb Om]
def be2(xs:Ab)(i:Nat):Nat:=(xs.getD i 0).toNat*256+(xs.getD (i+1) 0).toNat
def QL9:Nat->Ab->List P3->List P3×Bool
 | 0,_,_=>([],false)
 | n+1,xs,acc=>if 7<=xs.length then (if xs.getD 0 0=6 then QL9 n (xs.drop 7) (acc++[((be2 xs 1:Int),(be2 xs 3:Int),(be2 xs 5:Int))]) else ([],false)) else (acc,decide (xs.length=0))
theorem QUE:∀(n m:Nat) (xs:Ab) (a:List P3),xs.length<n->xs.length<m->QL9 n xs a=QL9 m xs a:=by
 intro n
 induction n with
 | zero=>intro m xs a h _;omega
 | succ n ih=>
  intro m xs a h1 c;obtain⟨m,rfl⟩:∃k,m=k+1:=⟨m - 1,Om⟩;unfold QL9;split
  ·split
   ·exact ih m _ _ (by simp;omega) (by simp;omega)
   ·rfl
  ·rfl
def QLL(xs:Ab):List P3×Bool:=QL9 (xs.length+1) xs []
theorem QYr(b:Sl)(xs:Ab)(M:xs.length<=1000)(N:b.n<=b.c):Ct Pr 249 [b.v] (.tup [none,none]) [.slice,.bool] [] (RAr U8 b xs) (fun t Bs=>t.2.1=(QLL xs).2/\Bs=[Ar PaE t.1 (QLL xs).1]):=by
 refine sp2 (QSq _) fun B I=>?_;unfold QSq mf;dsimp only;refine QAf PaE ?_;refine QAK [Ar PaE ⟨none,0,0⟩ []] ?_;refine QBt (fun n (l:Sl) (a:Sl) As'=>∃(ys:Ab) (f:List P3),RAr U8 a ys (frz B.W B.h0)/\a.n<=a.c/\n=ys.length/\ys.length+7*f.length<=1000/\QLL xs=QL9 (n+1) ys f/\As'=[Ar PaE l f]) xs.length ⟨xs,[],I,N,rfl,Si M,rfl,rfl⟩ ?_;rintro n l a As' K ⟨ys,f,j,J,rfl,Q,d,rfl⟩ L;haveI:Fro B a U8 ys:=⟨j⟩;have hn:ys.length=a.n:=j.1;unfold QL9 at d;refine QAB (fun h=>?_) (fun h=>?_)
 ·have x:7<=ys.length:=Om
  rw[We x]at d;have y:=Wa (l:=ys) (i:=0) Om;have z:=Wa (l:=ys) (i:=1) Om;have A:=Wa (l:=ys) (i:=2) Om;have C:=Wa (l:=ys) (i:=3) Om;have D:=Wa (l:=ys) (i:=4) Om;have G:=Wa (l:=ys) (i:=5) Om;have H:=Wa (l:=ys) (i:=6) Om;rw[show be2 ys 1=ys[1].toNat*256+ys[2].toNat by unfold be2;rw[QCw z,QCw A],show be2 ys 3=ys[3].toNat*256+ys[4].toNat by unfold be2;rw[QCw C,QCw D],show be2 ys 5=ys[5].toNat*256+ys[6].toNat by unfold be2;rw[QCw G,QCw H],QCw y]at d
  generalize ys[0]=o at *
  generalize ys[1]=p at *
  generalize ys[2]=q at *
  generalize ys[3]=r at *
  generalize ys[4]=s at *
  generalize ys[5]=u at *
  generalize ys[6]=w at *
  refine QAH (k:=0) (h1:=Om) (h:=fun _ _=>?_);refine QAN y (h:=?_);refine xif (fun g=>?_) (fun g=>?_)
  ·have m:o=6:=by
    have:o.toNat=6:=by simp at g;omega
    exact Z8.1 this
   rw[We m]at d;refine QAP ?_;refine QAH (k:=1) (h1:=Om) (h:=fun _ _=>?_);refine QAN z (h:=QBA Dc ?_);refine QAH (k:=2) (h1:=Om) (h:=fun _ _=>?_);refine QAN A (h:=?_);refine QAH (k:=3) (h1:=Om) (h:=fun _ _=>?_);refine QAN C (h:=QBA Dc ?_);refine QAH (k:=4) (h1:=Om) (h:=fun _ _=>?_);refine QAN D (h:=?_);refine QAH (k:=5) (h1:=Om) (h:=fun _ _=>?_);refine QAN G (h:=QBA Dc ?_);refine QAH (k:=6) (h1:=Om) (h:=fun _ _=>?_);refine QAN H (h:=?_);rw[QPC p q,QPC r s,QPC u w];refine QAL fun O=>?_;refine QE4 (E:=PaE) (((p.toNat*256+q.toNat:Nat):Int),((r.toNat*256+s.toNat:Nat):Int),((u.toNat*256+w.toNat:Nat):Int)) (hb:=Om) (h:=fun P=>?_);refine QEi Om Om Om Om ?_;simp only[Wh];refine L (ys.length - 7) _ _ _ Om ⟨ys.drop 7,f++[(((p.toNat*256+q.toNat:Nat):Int),((r.toNat*256+s.toNat:Nat):Int),((u.toNat*256+w.toNat:Nat):Int))],QOb a ys j 7 x J,?_,by simp,by simp;omega,?_,rfl⟩
   ·show (a.cut 7 a.n a.c 1).n<=(a.cut 7 a.n a.c 1).c;unfold Sl.cut;split<;>simp only<;>omega
   ·rw[d];exact QUE _ _ _ _ (by simp only[Oc];omega) (by simp only[Oc];omega)
  ·have m:¬o=6:=fun e=>by subst e;simp at g
   rw[Wb m]at d;rw[d];exact QAf PaE (QAK [Ar PaE ⟨none,0,0⟩ []] (QAD ⟨rfl,rfl⟩))
 ·rw[Wb Om]at d;rw[d];refine QAD ⟨?_,rfl⟩;show ((a.n:Int) == 0)=_;rw[<-hn];rcases Z6 ys.length with h0|h0
  ·simp[h0]
  ·have:ys.length≠0:=Om
   simp[this]
def QAv(c:Int):Tup [.I,.bool,.bool,.bool,.bool,.bool]:=
 if c=1\/c=2 then (2000,true,false,false,false,true,()) else
 if c=3\/c=4 then (125,true,false,false,false,true,()) else
 if c=5 then (1,false,true,false,false,true,()) else
 if c=6 then (1,false,false,true,false,true,()) else
 if c=15 then (1968,false,true,false,false,true,()) else
 if c=16 then (123,false,false,true,false,true,()) else
 if c=20 then (35,false,false,false,true,true,()) else
 (0,false,false,false,false,false,())
theorem QNs(c:Int):Ct Pr 160 [.I c] (.tup [some 5,none]) [.I,.bool,.bool,.bool,.bool,.bool] [] emp (fun t Bs=>t=QAv c/\Bs=[]):=by
 refine QAm (ss:=[.I,.bool,.bool,.bool,.bool,.bool]) (φ:=fun K=>(QIx _ K).1) (fun h=>cf _ rfl Kr h) fun B _=>?_;show Ent B [] (QIx c fun o p k q r s=>Ret B (ss:=[.I,.bool,.bool,.bool,.bool,.bool]) (fun t Bs=>t=QAv c/\Bs=[]) (o,p,k,q,r,s,()));unfold QIx mf;dsimp only
 have key:∀{P:Prop} [Decidable P] {b:Bool},(b=true↔P)->(b=false↔¬P):=fun h=>by
  rename_i P _ b
  cases b<;>simp_all
 refine QAL fun b=>?_;refine QAV (fun(x:Bool) As'=>As'=[Blk b [.I 0,.bool false,.bool false,.bool false,.bool false]]/\(x=true↔(c=1\/c=2))) (fun K f=>?_) ?_
 ·refine xif (fun h=>f _ _ ⟨rfl,?_⟩) (fun h=>f _ _ ⟨rfl,?_⟩)
  ·simp at h|-;omega
  ·simp at h|-;omega
 rintro x _ ⟨rfl,hx⟩;refine xif (fun h=>?_) (fun h=>?_)
 ·iterate 5 (refine xsq ?_)
  iterate 5 (refine xgq ?_)
  have e:QAv c=(2000,true,false,false,false,true,()):=by unfold QAv;rw[We (hx.1 h)]
  rw[e];exact QAd (l:=[]) (QAD ⟨rfl,rfl⟩)
 have a:=(key hx).1 h;refine QAV (fun(x:Bool) As'=>As'=[Blk b [.I 0,.bool false,.bool false,.bool false,.bool false]]/\(x=true↔(c=3\/c=4))) (fun K f=>?_) ?_
 ·refine xif (fun h=>f _ _ ⟨rfl,?_⟩) (fun h=>f _ _ ⟨rfl,?_⟩)
  ·simp at h|-;omega
  ·simp at h|-;omega
 rintro k _ ⟨rfl,m⟩;refine xif (fun h=>?_) (fun h=>?_)
 ·iterate 5 (refine xsq ?_)
  iterate 5 (refine xgq ?_)
  have e:QAv c=(125,true,false,false,false,true,()):=by unfold QAv;rw[Wb a,We (m.1 h)]
  rw[e];exact QAd (l:=[]) (QAD ⟨rfl,rfl⟩)
 have d:=(key m).1 h;refine xif (fun h=>?_) (fun h=>?_)
 ·iterate 5 (refine xsq ?_)
  iterate 5 (refine xgq ?_)
  have e:QAv c=(1,false,true,false,false,true,()):=by unfold QAv;rw[Wb a,Wb d,We (Si h)]
  rw[e];exact QAd (l:=[]) (QAD ⟨rfl,rfl⟩)
 have g:¬c=5:=Si h
 refine xif (fun h=>?_) (fun h=>?_)
 ·iterate 5 (refine xsq ?_)
  iterate 5 (refine xgq ?_)
  have e:QAv c=(1,false,false,true,false,true,()):=by unfold QAv;rw[Wb a,Wb d,Wb g,We (Si h)]
  rw[e];exact QAd (l:=[]) (QAD ⟨rfl,rfl⟩)
 have i:¬c=6:=Si h
 refine xif (fun h=>?_) (fun h=>?_)
 ·iterate 5 (refine xsq ?_)
  iterate 5 (refine xgq ?_)
  have e:QAv c=(1968,false,true,false,false,true,()):=by unfold QAv;rw[Wb a,Wb d,Wb g,Wb i,We (Si h)]
  rw[e];exact QAd (l:=[]) (QAD ⟨rfl,rfl⟩)
 have j:¬c=15:=Si h
 refine xif (fun h=>?_) (fun h=>?_)
 ·iterate 5 (refine xsq ?_)
  iterate 5 (refine xgq ?_)
  have e:QAv c=(123,false,false,true,false,true,()):=by unfold QAv;rw[Wb a,Wb d,Wb g,Wb i,Wb j,We (Si h)]
  rw[e];exact QAd (l:=[]) (QAD ⟨rfl,rfl⟩)
 have n:¬c=16:=Si h
 refine xif (fun h=>?_) (fun h=>?_)
 ·iterate 5 (refine xsq ?_)
  iterate 5 (refine xgq ?_)
  have e:QAv c=(35,false,false,false,true,true,()):=by unfold QAv;rw[Wb a,Wb d,Wb g,Wb i,Wb j,Wb n,We (Si h)]
  rw[e];exact QAd (l:=[]) (QAD ⟨rfl,rfl⟩)
 have u:¬c=20:=Si h
 iterate 5 (refine xsq ?_)
 iterate 5 (refine xgq ?_)
 have e:QAv c=(0,false,false,false,false,false,()):=by unfold QAv;rw[Wb a,Wb d,Wb g,Wb i,Wb j,Wb n,Wb u]
 rw[e];exact QAd (l:=[]) (QAD ⟨rfl,rfl⟩)
theorem QiK{c d:Bool}{φ:(Bool->WP)->WP}{rest:Bool->WP}(f:∀K:Bool->WP,Ent B As (K d)->Ent B As (φ K))(h:Ent B As (rest (c||d))):Ent B As (QBW [.bool] (fun(a:Bool->WP)=>XIf c (a c) (φ a)) rest):=by
 refine QAM (xif (fun e=>?_) (fun e=>f _ ?_))
 ·rw[e,Bool.true_or]at h;rw[e];exact h
 ·rw[e,Bool.false_or]at h;exact h
def QLa(c o s:Bool)(count:Int)(a d e:Nat):Int:=if c then count else if o then (a:Int) else if s then (d:Int) else (e:Int)
theorem QYC(m:Int)(c o s n:Bool)(code addr count:Int)(e f g:Sl):Ct Pr 252 [.agg #[.I m,.bool c,.bool o,.bool s,.bool n],.agg #[.I code,.I addr,.I count,e.v,f.v,g.v]] .one [.I] [] emp
  (fun t Bs=>t.1=QLa c o s count e.n f.n g.n/\Bs=[]):=by
 refine sp1 (QV2 _ _ _ _ _ _ _ _ _ _ _) fun B _=>?_;unfold QV2 mf;dsimp only;refine QAL fun b=>QAL fun i=>?_;unfold QLa;refine QAh (s:=.bool) (x:=c) (h:=xif (fun h=>QAh (s:=.I) (x:=count) (h:=QAd (l:=[]) (QAD ⟨?_,rfl⟩))) (fun h=>QAh (s:=.bool) (x:=o) (h:=xif (fun a=>QAh (s:=.slice) (x:=e) (h:=QAd (l:=[]) (QAD ⟨?_,rfl⟩))) (fun a=>QAh (s:=.bool) (x:=s) (h:=xif (fun d=>QAh (s:=.slice) (x:=f) (h:=QAd (l:=[]) (QAD ⟨?_,rfl⟩))) (fun d=>QAh (s:=.slice) (x:=g) (h:=QAd (l:=[]) (QAD ⟨?_,rfl⟩))))))))
 ·rw[h];rfl
 ·rw[h,a];rfl
 ·rw[h,a,d];rfl
 ·rw[h,a,d];rfl
def askE(code addr count:Int)(a c:Nat)(ps:List P3):Int:=
 if (QAv code).2.2.2.2.2.1=false then 20 else
 if ((!(QAv code).2.1)&&(count != 0))||(((!(QAv code).2.2.1)&&decide ((a:Int)>0))||(((!(QAv code).2.2.2.1)&&decide ((c:Int)>0))||(((!(QAv code).2.2.2.2.1)&&decide ((ps.length:Int)>0))||((QAv code).2.2.2.2.1&&(addr != 0))))) then 23 else
 if addr<0\/addr>65535 then 21 else
 let m:=QLa (QAv code).2.1 (QAv code).2.2.1 (QAv code).2.2.2.1 count a c ps.length
 if m<1\/m>(QAv code).1 then 22 else
 if (QAv code).2.2.2.2.1=false/\addr+m>65536 then 21 else QWx 245 ps
theorem QHq(code addr count:Int)(on set s:Sl)(ps:List P3):Ct Pr 163 [.agg #[.I code,.I addr,.I count,on.v,set.v,s.v]] .one [.I] [] (RAr PaE s ps) (fun t Bs=>t.1=askE code addr count on.n set.n ps/\Bs=[]):=by
 refine QG9 Qal fun B O=>?_;haveI:Fro B s PaE ps:=⟨O⟩;have T:=O.1;obtain⟨A,j⟩:∃A,askE code addr count on.n set.n ps=A:=⟨_,rfl⟩;rw[j];have e:∀{x:Int}{As:List HP},A=x->Ent B As (Ret B (ss:=[.I]) (fun r Bs=>r.1=A/\Bs=[]) (x,())):=fun h=>QAd (l:=[]) (QAD ⟨h.symm,rfl⟩);unfold QU8;refine QAL fun b=>QAh (s:=.I) (x:=code) (h:=?_);refine QAS (QNs code) rdb ?_;rintro t _ ⟨D,rfl⟩;unfold askE at j;rw[<-D]at j;obtain⟨(g:Int),(c:Bool),(o:Bool),(st:Bool),(n:Bool),(ok:Bool),u⟩:=t;simp only at j;subst j;refine QA2 (ca6 (QAL fun b1=>?_));iterate 5 (refine xsq ?_)
 refine xeq QP0 ?_;unfold QIh;refine xif (fun h=>e ?_) (fun P=>?_)
 ·rw[We (Si h)]
 rw[Wb (Si P)]at e;rw[Wb (Si P)];refine QAh (s:=.bool) (x:=c) (h:=QGR (fun K h=>QAh (s:=.I) (x:=count) (h:=h)) ?_);refine QiK (fun K h=>QAh (s:=.bool) (x:=o) (h:=QGR (fun K h=>QAh (s:=.slice) (x:=on) (h:=h)) (QiK (fun K h=>QAh (s:=.bool) (x:=st) (h:=QGR (fun K h=>QAh (s:=.slice) (x:=set) (h:=h)) (QiK (fun K h=>QAh (s:=.bool) (x:=n) (h:=QGR (fun K h=>QAh (s:=.slice) (x:=s) (h:=h)) (QiK (fun K h=>QAh (s:=.bool) (x:=n) (h:=QGR (fun K h=>QAh (s:=.I) (x:=addr) (h:=h)) h)) h))) h))) h))) ?_;rw[<-T];refine xif (fun h=>e ?_) (fun q=>?_)
 ·rw[We h]
 rw[Wb (by rw[q];decide)]at e;rw[Wb (by rw[q];decide)];refine QAh (s:=.I) (x:=addr) (h:=QUr (fun K h=>QAh (s:=.I) (x:=addr) (h:=h)) (xif (fun h=>e ?_) (fun Y=>?_)))
 ·rw[We (Si h)]
 have U:¬(addr<0\/addr>65535):=Si Y
 rw[Wb U]at e;rw[Wb U];refine xeq QQ7 ?_;unfold QIs;refine QAh (s:=.I) (x:=g) (h:=QAh (s:=.bool) (x:=c) (h:=QAh (s:=.bool) (x:=o) (h:=QAh (s:=.bool) (x:=st) (h:=QAh (s:=.bool) (x:=n) (h:=?_)))));refine QAh (s:=.I) (x:=code) (h:=QAh (s:=.I) (x:=addr) (h:=QAh (s:=.I) (x:=count) (h:=QAh (s:=.slice) (x:=on) (h:=QAh (s:=.slice) (x:=set) (h:=QAh (s:=.slice) (x:=s) (h:=?_))))));refine QAS (QYC g c o st n code addr count on set s) rdb ?_;rintro⟨(m:Int),_⟩ _ ⟨p,rfl⟩;have p:m=QLa c o st count on.n set.n s.n:=p;rw[<-T]at p;rw[<-p]at e|-;refine QA2 (ca1 (QUr (fun K h=>QAh (s:=.I) (x:=g) (h:=h)) (xif (fun h=>e ?_) (fun Z=>?_))))
 ·rw[We (Si h)]
 have V:¬(m<1\/m>g):=Si Z
 rw[Wb V]at e;rw[Wb V]
 have b6:g<=2000:=by
  have h1:g=(QAv code).1:=by rw[<-D]
  rw[h1];unfold QAv;repeat' split
  all_goals decide
 refine QAh (s:=.bool) (x:=n) (h:=QGR (fun K h=>QAh (s:=.I) (x:=addr) (h:=h)) (xif (fun h=>e ?_) (fun Q=>?_)))
 ·rw[QAC _ Om Om]at h;rw[We (Si h)]
 rw[QAC _ Om Om]at Q
 have W:¬(n=false/\addr+m>65536):=Si Q
 rw[Wb W]at e;rw[Wb W]
 have b7:ps.length<=2000:=by
  have J:(QAv code).2.2.2.2.1=true->(QAv code).2.1=false/\(QAv code).2.2.1=false/\(QAv code).2.2.2.1=false:=by
   unfold QAv;repeat' split
   all_goals simp
  rw[<-D]at J;simp only at J
  cases n with
  | true=>
   obtain⟨a1,a2,a3⟩:=J rfl;subst a1 a2 a3;have:m=(ps.length:Int):=p;omega
  | false=>
   simp at q;have:=q.2.2.2;simp[this]
 refine xeq QQ3 ?_;unfold QML;refine xgq ?_;refine QAK [] ?_;refine QBt (fun n (room:Int) (w:Int) As'=>∃k:Nat,w=(k:Int)/\n=ps.length - k/\k<=ps.length/\QWx 245 ps=QWx room (ps.drop k)/\-(20002*(k:Int))<=room/\room<=245/\As'=[]) ps.length ⟨0,rfl,Om,Om,rfl,Om,Om,rfl⟩ ?_;rintro n room _ _ K ⟨k,rfl,rfl,b2,he,b3,b4,rfl⟩ a4;refine QAB (fun a0=>?_) (fun a0=>?_)
 ·have L:k<ps.length:=Om
  obtain⟨⟨a,f,c⟩,C⟩:∃y,ps[k]? = some y:=⟨_,Wa L⟩
  have a9:ps.drop k=(a,f,c)::ps.drop (k+1):=by rw[Ws L];congr 1;exact (Wc.1 C).2
  rw[a9,QWx]at he;refine QAH (E:=PaE) (xs:=ps) (s:=s) (h1:=L) (h:=fun _ _=>?_);refine QAN (E:=PaE) (xs:=ps) C (h:=?_);refine QAa (E:=PaE) (xs:=ps) C (h:=?_);refine QAa (E:=PaE) (xs:=ps) C (h:=?_)
  (try dsimp only)
  refine QAL fun i=>?_;iterate 3 (refine xsq ?_)
  refine xgq ?_;refine QAV (fun(x:Bool) As'=>x=(decide (a<1)||decide (a>65535))/\As'=[Blk i [.I a,.I f,.I c]]) (fun z d=>xif (fun h=>d _ _ ⟨by rw[h];rfl,rfl⟩) (fun h=>QAh (h:=d _ _ ⟨by rw[h];rfl,rfl⟩))) ?_;rintro x _ ⟨hx,rfl⟩;refine QAV (fun(y:Bool) As'=>y=(x||decide (f<0))/\As'=[Blk i [.I a,.I f,.I c]]) (fun z d=>xif (fun h=>d _ _ ⟨by rw[h];rfl,rfl⟩) (fun h=>QAh (h:=d _ _ ⟨by rw[h];rfl,rfl⟩))) ?_;rintro a5 _ ⟨R,rfl⟩;refine QAV (fun(y:Bool) As'=>y=(a5||decide (f>=10000))/\As'=[Blk i [.I a,.I f,.I c]]) (fun z d=>xif (fun h=>d _ _ ⟨by rw[h];rfl,rfl⟩) (fun h=>QAh (h:=d _ _ ⟨by rw[h];rfl,rfl⟩))) ?_;rintro a6 _ ⟨S,rfl⟩;refine QAV (fun(y:Bool) As'=>y=(a6||decide (c<1))/\As'=[Blk i [.I a,.I f,.I c]]) (fun z d=>xif (fun h=>d _ _ ⟨by rw[h];rfl,rfl⟩) (fun h=>QAh (h:=d _ _ ⟨by rw[h];rfl,rfl⟩))) ?_;rintro w _ ⟨G,rfl⟩
  have X:w=false->0<=f/\f<10000/\1<=c:=fun h=>by
   rw[h]at G;have M:=G.symm;rw[O0]at M;rw[S,R]at M;simp at M;omega
  refine QAV (fun(y:Bool) As'=>y=(w||decide (c>10000 - f))/\As'=[Blk i [.I a,.I f,.I c]]) (fun z d=>xif (fun h=>d _ _ ⟨by rw[h];rfl,rfl⟩) (fun h=>xgq (xgq (d _ _ ⟨?_,rfl⟩)))) ?_
  ·obtain⟨f0,a7,_⟩:=X h;rw[h,QAC _ Om Om];rfl
  rintro a8 _ ⟨H,rfl⟩
  have a':a8=QaB (a,f,c):=by rw[H,G,S,R,hx];rfl
  rw[<-a']at he;refine xif (fun h=>e ?_) (fun h=>xgq ?_)
  ·rw[he,We h]
  rw[Wb (by rw[h];simp)]at he;rw[h]at H;have N:=H.symm;rw[O0]at N;obtain⟨f0,a7,b5⟩:=X N.1
  have b8:c<=10000 - f:=by have:=N.2;simp at this;omega
  have b0:IntKind.i64.wrap (room - IntKind.i64.wrap (2+IntKind.i64.wrap (2*c)))=room - (2+2*c):=by
   rw[QAC (2*c) Om Om,QAC (2+2*c) Om Om,QAC _ Om Om]
  rw[b0,QAE k Om];refine QAK [] ?_;exact a4 _ _ _ _ Om ⟨k+1,rfl,rfl,Om,he,Om,Om,rfl⟩
 ·rw[Zg Om,QWx]at he;refine QAB (fun h=>e ?_) (fun h=>e ?_)
  ·rw[he,We h]
  ·rw[he,Wb h]
end Go.Cx
namespace Go.Cx
open Go Go.Cf Go.Cx
set_option linter.unusedVariables false
set_option maxRecDepth 100000
variable {B:QBJ}{As F:List HP}{α:Type}
def QDj(used:Bool)(v:Int):Bool:=v == 0||(used&&decide (-1099511627776<=v)&&decide (v<=1099511627776))
def QcA(ulow uhigh:Bool)(low high hyst:Int):Int:=
 if hyst<0\/hyst>1099511627776\/QDj ulow low=false\/QDj uhigh high=false\/(ulow=true/\uhigh=true/\hyst>=high - low) then 27 else 0
theorem QY2(u:Bool)(v:Int):Ct Pr 349 [.bool u,.I v] .one [.bool] [] emp (fun t Bs=>t.1=QDj u v/\Bs=[]):=by
 refine sp1 (QM3 _ _) fun B _=>?_;unfold QM3 mf;dsimp only;refine QAM (xif (fun h=>QAD ⟨?_,rfl⟩) (fun h=>QAD ⟨?_,rfl⟩))
 ·simp only[QDj,h,Bool.true_or]
 ·simp only[QDj,h,Bool.false_or,ge_iff_le]
theorem QJ8(ulow uhigh latch:Bool)(low high hyst:Int):Ct Pr 258 [.agg #[.bool ulow,.bool uhigh,.bool latch,.I low,.I high,.I hyst]] .one [.I] [] emp (fun t Bs=>t.1=QcA ulow uhigh low high hyst/\Bs=[]):=by
 refine sp1 (QNa _ _ _ _ _ _) fun B _=>?_;have a:∀{x:Int}{As:List HP},x=QcA ulow uhigh low high hyst->Ent B As (Ret B (ss:=[.I]) (fun t Bs=>t.1=QcA ulow uhigh low high hyst/\Bs=[]) (x,())):=fun h=>QAd (l:=[]) (QAD ⟨h,rfl⟩)
 have c:IntKind.i64.wrap (high - low)=high - low\/low < -1099511627776\/low>1099511627776\/high < -1099511627776\/high>1099511627776:=by
  by_cases h:low < -1099511627776\/low>1099511627776\/high < -1099511627776\/high>1099511627776
  ·exact .inr h
  ·exact .inl (QAC _ Om Om)
 unfold QNa mf;dsimp only;cases ulow<;>cases uhigh
 all_goals
  refine QAL fun b=>?_;repeat' (first|refine QAM ?_|refine QCC rfl ?_|refine QBH rfl ?_|refine xgq ?_|(refine QAS (QY2 _ _) rdb ?_;rintro⟨x,_⟩ _ ⟨hx,rfl⟩;simp only at hx;subst hx;refine QA2 (ca1 ?_))|refine xif (fun h0=>?_) (fun h0=>?_))
  all_goals
   refine a ?_
   simp only[QDj,Oz,O0,Wq,Wx,On,ne_eq,K7,W2,Lf,Bool.false_and,Bool.true_and,Lo,U1,Zq,Wf,Uc,true_and,false_and,Wi,and_false,or_false]at *
   simp only[QcA,QDj,Bool.false_and,Bool.true_and,Lo,O0,U1,ne_eq,Uc,Wx,true_and,false_and,Wi,and_false,or_false];first|rw[We Om]|rw[Wb Om]
end Go.Cx
namespace Go.Cx
open Go Go.Cf
set_option linter.unusedVariables false
set_option maxRecDepth 100000
variable {B:QBJ}{As F:List HP}
section
variable (b:Nat) (ulow uhigh latch:Bool) (low high hyst v:Int)
theorem QYJ:Ct Pr 489 [.I v,.pointer (some ⟨b,0,none⟩)] .one [.bool] [Blk b [.bool ulow,.bool uhigh,.bool latch,.I low,.I high,.I hyst]] emp
  (fun t Bs=>t.1=(ulow&&decide (v<=low))/\Bs=[Blk b [.bool ulow,.bool uhigh,.bool latch,.I low,.I high,.I hyst]]):=by
 refine sp1 (QJT _ _) fun B _=>?_;unfold QJT mf;dsimp only;exact QAh (s:=.bool) (x:=ulow) (hv:=rfl) (h:=QGR (fun K h=>QAh (s:=.I) (x:=low) (hv:=rfl) (h:=h)) (QAD ⟨rfl,rfl⟩))
theorem QYi:Ct Pr 491 [.I v,.pointer (some ⟨b,0,none⟩)] .one [.bool] [Blk b [.bool ulow,.bool uhigh,.bool latch,.I low,.I high,.I hyst]] emp
  (fun t Bs=>t.1=(uhigh&&decide (v>=high))/\Bs=[Blk b [.bool ulow,.bool uhigh,.bool latch,.I low,.I high,.I hyst]]):=by
 refine sp1 (QJ2 _ _) fun B _=>?_;unfold QJ2 mf;dsimp only;exact QAh (s:=.bool) (x:=uhigh) (hv:=rfl) (h:=QGR (fun K h=>QAh (s:=.I) (x:=high) (hv:=rfl) (h:=h)) (QAD ⟨rfl,rfl⟩))
theorem QX1(h1 : -1099511627776<=low/\low<=1099511627776)(a:0<=hyst/\hyst<=1099511627776):Ct Pr 490 [.I v,.pointer (some ⟨b,0,none⟩)] .one [.bool] [Blk b [.bool ulow,.bool uhigh,.bool latch,.I low,.I high,.I hyst]] emp
  (fun t Bs=>t.1=(!ulow||decide (v>low+hyst))/\Bs=[Blk b [.bool ulow,.bool uhigh,.bool latch,.I low,.I high,.I hyst]]):=by
 refine sp1 (QKG _ _) fun B _=>?_;unfold QKG mf;dsimp only;exact QAh (s:=.bool) (x:=ulow) (hv:=rfl) (h:=QUr (fun K h=>QAh (s:=.I) (x:=low) (hv:=rfl) (h:=QAh (s:=.I) (x:=hyst) (hv:=rfl) (h:=by rw[QAC _ Om Om];exact h))) (QAD ⟨rfl,rfl⟩))
theorem QXZ(h1 : -1099511627776<=high/\high<=1099511627776)(a:0<=hyst/\hyst<=1099511627776):Ct Pr 492 [.I v,.pointer (some ⟨b,0,none⟩)] .one [.bool] [Blk b [.bool ulow,.bool uhigh,.bool latch,.I low,.I high,.I hyst]] emp
  (fun t Bs=>t.1=(!uhigh||decide (v<high - hyst))/\Bs=[Blk b [.bool ulow,.bool uhigh,.bool latch,.I low,.I high,.I hyst]]):=by
 refine sp1 (QJg _ _) fun B _=>?_;unfold QJg mf;dsimp only;exact QAh (s:=.bool) (x:=uhigh) (hv:=rfl) (h:=QUr (fun K h=>QAh (s:=.I) (x:=high) (hv:=rfl) (h:=QAh (s:=.I) (x:=hyst) (hv:=rfl) (h:=by rw[QAC _ Om Om];exact h))) (QAD ⟨rfl,rfl⟩))
end
def QSD(ulow uhigh latch:Bool)(low high hyst:Int)(t:Tup [.I,.I,.val,.val,.I,.I,.val,.val])(Bs:List HP):Prop:=
 ∃b:Nat,t=(1,1,.func (.func 489) #[] #[.pointer (some ⟨b,0,none⟩)],.func (.func 490) #[] #[.pointer (some ⟨b,0,none⟩)],2,2,.func (.func 491) #[] #[.pointer (some ⟨b,0,none⟩)],.func (.func 492) #[] #[.pointer (some ⟨b,0,none⟩)],()) /\
  Bs=[Blk b [.bool ulow,.bool uhigh,.bool latch,.I low,.I high,.I hyst]]
theorem QXc(ulow uhigh latch:Bool)(low high hyst:Int):Ct Pr 433 [.agg #[.bool ulow,.bool uhigh,.bool latch,.I low,.I high,.I hyst]] .agg [.I,.I,.val,.val,.I,.I,.val,.val] [] emp
  (QSD ulow uhigh latch low high hyst):=by
 refine QAm (ss:=[.I,.I,.val,.val,.I,.I,.val,.val]) (φ:=fun K=>(QI0 _ _ _ _ _ _ K).1) (fun h=>cf _ rfl Kr h) fun B _=>?_;show Ent B [] (QI0 ulow uhigh latch low high hyst fun a c d e f g i j=>Ret B (ss:=[.I,.I,.val,.val,.I,.I,.val,.val]) (QSD ulow uhigh latch low high hyst) (a,c,d,e,f,g,i,j,()));unfold QI0 mf;dsimp only;refine QAL fun b=>QAL fun k=>?_;iterate 8 (refine xsq ?_)
 iterate 8 (refine xgq ?_)
 exact QAK [Blk b [.bool ulow,.bool uhigh,.bool latch,.I low,.I high,.I hyst]] (QAD ⟨b,rfl,rfl⟩)
theorem QV0{cs:Ad}{n sz:Nat}{ss:List Sh}{K:Cur ss}{k:Nat}(d:k<n)(t:Tup ss)(c:Tup.vals ss t=(cs.drop (k*sz)).take sz)(h:Ent B As (Cur.app ss K t)):Ent B As (QIa cs (k:Int) n sz ss K):=
 fun w a=>⟨Om,Om,t,by rw[Wh];exact c,h w a⟩
theorem Qd2:QBN Pr 489=true:=Kr
theorem Qct:QBN Pr 490=true:=Kr
theorem Qd6:QBN Pr 491=true:=Kr
theorem Qd3:QBN Pr 492=true:=Kr
theorem QkD{a c d e f g i j:Sh}{K:a.ty->c.ty->d.ty->e.ty->f.ty->g.ty->i.ty->j.ty->WP}{k:a.ty}{l:c.ty}{m:d.ty}{n:e.ty}{o:f.ty}{p:g.ty}{q:i.ty}{r:j.ty}{v:Unit}(h:Ent B As (K k l m n o p q r)):Ent B As (Cur.app [a,c,d,e,f,g,i,j] K (k,l,m,n,o,p,q,r,v)):=h
theorem QgN{a c d e:Sh}{K:a.ty->c.ty->d.ty->e.ty->WP}{f:a.ty}{g:c.ty}{i:d.ty}{j:e.ty}{v:Unit}(h:Ent B As (K f g i j)):Ent B As (Cur.app [a,c,d,e] K (f,g,i,j,v)):=h
structure QjE where
 ulow:Bool
 uhigh:Bool
 latch:Bool
 low:Int
 high:Int
 hyst:Int
structure AlV where
 state:Int
 waits:Bool
 deriving DecidableEq
def QIc(l:QjE)(a:AlV)(v:Int):AlV×Int:=
 if QcA l.ulow l.uhigh l.low l.high l.hyst≠0\/a.state<0\/a.state>2 then (a,0)
 else if (l.ulow&&decide (v<=l.low))=true then (if a.state=1 then (a,0) else (⟨1,true⟩,1))
 else if (l.uhigh&&decide (v>=l.high))=true then (if a.state=2 then (a,0) else (⟨2,true⟩,2))
 else if (((a.state == 1)&&(!l.ulow||decide (v>l.low+l.hyst))) && !(l.latch&&a.waits))=true then (⟨0,a.waits⟩,3)
 else if (((a.state == 2)&&(!l.uhigh||decide (v<l.high - l.hyst))) && !(l.latch&&a.waits))=true then (⟨0,a.waits⟩,3)
 else (a,0)
theorem QOX(l:QjE)(a:AlV)(v:Int):Ct Pr 340 [.agg #[.bool l.ulow,.bool l.uhigh,.bool l.latch,.I l.low,.I l.high,.I l.hyst],.agg #[.I a.state,.bool a.waits],.I v] (.tup [some 2,none]) [.I,.bool,.I] [] emp
  (fun t Bs=>t=((QIc l a v).1.state,(QIc l a v).1.waits,(QIc l a v).2,())/\Bs=[]):=by
 obtain⟨ulow,uhigh,latch,low,high,hyst⟩:=l;obtain⟨state,waits⟩:=a;refine sp3 (QPX _ _ _ _ _ _ _ _ _) fun B _=>?_;unfold QPX mf;dsimp only
 (try simp only)
 refine QAL fun b=>QAL fun j=>QAL fun g=>?_;iterate 6 (refine xgq ?_)
 refine QAS (QJ8 ulow uhigh latch low high hyst) rdb ?_;rintro⟨(r:Int),_⟩ _ ⟨A,rfl⟩;have A:r=QcA ulow uhigh low high hyst:=A;refine QA2 (ca1 ?_);refine QUr (fun K h=>QAh (s:=.I) (x:=state) (h:=h)) ?_;refine QUr (fun K h=>QAh (s:=.I) (x:=state) (h:=h)) ?_;generalize i:QIc ⟨ulow,uhigh,latch,low,high,hyst⟩ ⟨state,waits⟩ v=U;unfold QIc at i;simp only at i;refine xif (fun h=>?_) (fun E=>?_)
 ·rw[We (by rw[A]at h;simp at h;omega)]at i;subst i;iterate 2 (refine xgq ?_)
  iterate 2 (refine xsq ?_)
  iterate 2 (refine xgq ?_)
  exact QAd (l:=[]) (QAD ⟨rfl,rfl⟩)
 have P:¬(QcA ulow uhigh low high hyst≠0\/state<0\/state>2):=by rw[A]at E;simp at E;omega
 rw[Wb P]at i
 have Q:QcA ulow uhigh low high hyst=0:=Om
 iterate 6 (refine xgq ?_)
 refine QAS (QXc ulow uhigh latch low high hyst) rdb ?_;rintro _ _ ⟨f,rfl,rfl⟩;refine QAz (QkD (QAL fun o=>?_));iterate 8 (refine xsq ?_)
 iterate 8 (refine xgq ?_)
 have J:∀(u:Bool) (x:Int),QDj u x=true->-1099511627776<=x/\x<=1099511627776:=by
  intro u x hx;unfold QDj at hx;simp at hx;omega
 have R:(-1099511627776<=low/\low<=1099511627776)/\(-1099511627776<=high/\high<=1099511627776)/\0<=hyst/\hyst<=1099511627776:=by
  have h0:=Q;unfold QcA at h0;split at h0
  ·cases h0
  ·rename_i G
   have S:QDj ulow low=true:=by cases e:QDj ulow low with|true=>rfl|false=>exact absurd (.inr (.inr (.inl e))) G
   have T:QDj uhigh high=true:=by cases e:QDj uhigh high with|true=>rfl|false=>exact absurd (.inr (.inr (.inr (.inl e)))) G
   exact⟨J _ _ S,J _ _ T,Om,Om⟩
 obtain⟨L,M,H⟩:=R;refine QBa (fun n (x:Int) As'=>∃k:Nat,x=(k:Int)/\n=2 - k/\k<=2/\(1<=k->(ulow&&decide (v<=low))=false)/\(2<=k->(uhigh&&decide (v>=high))=false)/\As'=[Blk o [.I 1,.I 1,.func (.func 489) #[] #[.pointer (some ⟨f,0,none⟩)],.func (.func 490) #[] #[.pointer (some ⟨f,0,none⟩)],.I 2,.I 2,.func (.func 491) #[] #[.pointer (some ⟨f,0,none⟩)],.func (.func 492) #[] #[.pointer (some ⟨f,0,none⟩)]],Blk f [.bool ulow,.bool uhigh,.bool latch,.I low,.I high,.I hyst],Blk g [.I 0,.bool false],Blk j [.I state,.bool waits],Blk b [.bool ulow,.bool uhigh,.bool latch,.I low,.I high,.I hyst]]) 2 ⟨0,rfl,rfl,Om,fun h=>Om,fun h=>Om,rfl⟩ ?_;rintro n x As' K ⟨k,rfl,rfl,N,q,D,rfl⟩ y;refine QAB (fun C=>?_) (fun C=>?_)
 ·have w:k=0\/k=1:=Om
  rcases w with rfl|rfl
  ·refine QV0 Om (1,1,.func (.func 489) #[] #[.pointer (some ⟨f,0,none⟩)],.func (.func 490) #[] #[.pointer (some ⟨f,0,none⟩)],()) rfl (QgN (QAL fun m=>?_));iterate 4 (refine xsq ?_)
   refine QAh (s:=.val) (x:=.func (.func 489) #[] #[.pointer (some ⟨f,0,none⟩)]) (hv:=rfl) (h:=QYT Qd2 ?_);refine xcl (QYJ f ulow uhigh latch low high hyst v) rdb ?_;rintro⟨c,_⟩ _ ⟨hc,rfl⟩;obtain rfl:c=(ulow&&decide (v<=low)):=hc;refine QAz (ca1 (xif (fun h=>?_) (fun h=>?_)))
   ·rw[We h]at i;refine QAh (b:=j) (s:=.I) (x:=state) (hv:=rfl) (h:=QAh (b:=m) (s:=.I) (x:=1) (hv:=rfl) (h:=xif (fun h1=>?_) (fun h1=>?_)))
    ·rw[We (Si h1)]at i;subst i;refine QAh (b:=j) (s:=.I) (x:=state) (hv:=rfl) (h:=QAh (b:=j) (s:=.bool) (x:=waits) (hv:=rfl) (h:=?_));refine QTt (b:=g) (h:=QTt (b:=g) (h:=?_));refine QAh (b:=g) (s:=.I) (x:=state) (hv:=rfl) (h:=QAh (b:=g) (s:=.bool) (x:=waits) (hv:=rfl) (h:=?_));exact QAd (l:=[]) (QAD ⟨rfl,rfl⟩)
    ·rw[Wb (Si h1)]at i;subst i;refine QAP (QAh (b:=m) (s:=.I) (x:=1) (hv:=rfl) (h:=QAh (b:=m) (s:=.I) (x:=1) (hv:=rfl) (h:=?_)));refine QTt (b:=g) (h:=QTt (b:=g) (h:=QDK (b:=m) (hv:=rfl) ?_));refine QAh (b:=g) (s:=.I) (x:=1) (hv:=rfl) (h:=QAh (b:=g) (s:=.bool) (x:=true) (hv:=rfl) (h:=?_));exact QAd (l:=[]) (QAD ⟨rfl,rfl⟩)
   ·rw[QAE 0 Om];exact QAK [Blk o [.I 1,.I 1,.func (.func 489) #[] #[.pointer (some ⟨f,0,none⟩)],.func (.func 490) #[] #[.pointer (some ⟨f,0,none⟩)],.I 2,.I 2,.func (.func 491) #[] #[.pointer (some ⟨f,0,none⟩)],.func (.func 492) #[] #[.pointer (some ⟨f,0,none⟩)]],Blk f [.bool ulow,.bool uhigh,.bool latch,.I low,.I high,.I hyst],Blk g [.I 0,.bool false],Blk j [.I state,.bool waits],Blk b [.bool ulow,.bool uhigh,.bool latch,.I low,.I high,.I hyst]] (y 1 _ _ Om ⟨1,rfl,rfl,Om,fun _=>h,fun h=>Om,rfl⟩)
  ·have q:=q Om;rw[Wb (by rw[q];decide)]at i;refine QV0 Om (2,2,.func (.func 491) #[] #[.pointer (some ⟨f,0,none⟩)],.func (.func 492) #[] #[.pointer (some ⟨f,0,none⟩)],()) rfl (QgN (QAL fun m=>?_));iterate 4 (refine xsq ?_)
   refine QAh (s:=.val) (x:=.func (.func 491) #[] #[.pointer (some ⟨f,0,none⟩)]) (hv:=rfl) (h:=QYT Qd6 ?_);refine xcl (QYi f ulow uhigh latch low high hyst v) rdb ?_;rintro⟨c,_⟩ _ ⟨hc,rfl⟩;obtain rfl:c=(uhigh&&decide (v>=high)):=hc;refine QAz (ca1 (xif (fun h=>?_) (fun h=>?_)))
   ·rw[We h]at i;refine QAh (b:=j) (s:=.I) (x:=state) (hv:=rfl) (h:=QAh (b:=m) (s:=.I) (x:=2) (hv:=rfl) (h:=xif (fun h1=>?_) (fun h1=>?_)))
    ·rw[We (Si h1)]at i;subst i;refine QAh (b:=j) (s:=.I) (x:=state) (hv:=rfl) (h:=QAh (b:=j) (s:=.bool) (x:=waits) (hv:=rfl) (h:=?_));refine QTt (b:=g) (h:=QTt (b:=g) (h:=?_));refine QAh (b:=g) (s:=.I) (x:=state) (hv:=rfl) (h:=QAh (b:=g) (s:=.bool) (x:=waits) (hv:=rfl) (h:=?_));exact QAd (l:=[]) (QAD ⟨rfl,rfl⟩)
    ·rw[Wb (Si h1)]at i;subst i;refine QAP (QAh (b:=m) (s:=.I) (x:=2) (hv:=rfl) (h:=QAh (b:=m) (s:=.I) (x:=2) (hv:=rfl) (h:=?_)));refine QTt (b:=g) (h:=QTt (b:=g) (h:=QDK (b:=m) (hv:=rfl) ?_));refine QAh (b:=g) (s:=.I) (x:=2) (hv:=rfl) (h:=QAh (b:=g) (s:=.bool) (x:=true) (hv:=rfl) (h:=?_));exact QAd (l:=[]) (QAD ⟨rfl,rfl⟩)
   ·rw[QAE 1 Om];exact QAK [Blk o [.I 1,.I 1,.func (.func 489) #[] #[.pointer (some ⟨f,0,none⟩)],.func (.func 490) #[] #[.pointer (some ⟨f,0,none⟩)],.I 2,.I 2,.func (.func 491) #[] #[.pointer (some ⟨f,0,none⟩)],.func (.func 492) #[] #[.pointer (some ⟨f,0,none⟩)]],Blk f [.bool ulow,.bool uhigh,.bool latch,.I low,.I high,.I hyst],Blk g [.I 0,.bool false],Blk j [.I state,.bool waits],Blk b [.bool ulow,.bool uhigh,.bool latch,.I low,.I high,.I hyst]] (y 0 _ _ Om ⟨2,rfl,rfl,Om,fun _=>q,fun _=>h,rfl⟩)
 ·have w:k=2:=Om
  subst w;have q:=q Om;have D:=D Om;rw[Wb (by rw[q];decide),Wb (by rw[D];decide)]at i;iterate 8 (refine xgq ?_)
  refine QBa (fun n (x:Int) As'=>∃k:Nat,x=(k:Int)/\n=2 - k/\k<=2/\(1<=k->(((state == 1)&&(!ulow||decide (v>low+hyst))) && !(latch&&waits))=false)/\(2<=k->(((state == 2)&&(!uhigh||decide (v<high - hyst))) && !(latch&&waits))=false)/\As'=[Blk o [.I 1,.I 1,.func (.func 489) #[] #[.pointer (some ⟨f,0,none⟩)],.func (.func 490) #[] #[.pointer (some ⟨f,0,none⟩)],.I 2,.I 2,.func (.func 491) #[] #[.pointer (some ⟨f,0,none⟩)],.func (.func 492) #[] #[.pointer (some ⟨f,0,none⟩)]],Blk f [.bool ulow,.bool uhigh,.bool latch,.I low,.I high,.I hyst],Blk g [.I 0,.bool false],Blk j [.I state,.bool waits],Blk b [.bool ulow,.bool uhigh,.bool latch,.I low,.I high,.I hyst]]) 2 ⟨0,rfl,rfl,Om,fun h=>Om,fun h=>Om,rfl⟩ ?_;clear y;rintro n x As' K ⟨k,rfl,rfl,N,z,O,rfl⟩ y;refine QAB (fun C=>?_) (fun C=>?_)
  ·have w:k=0\/k=1:=Om
   rcases w with rfl|rfl
   ·refine QV0 Om (1,1,.func (.func 489) #[] #[.pointer (some ⟨f,0,none⟩)],.func (.func 490) #[] #[.pointer (some ⟨f,0,none⟩)],()) rfl (QgN (QAL fun p=>?_));iterate 4 (refine xsq ?_)
    refine QAh (b:=j) (s:=.I) (x:=state) (hv:=rfl) (h:=QAh (b:=p) (s:=.I) (x:=1) (hv:=rfl) (h:=?_));refine QGR (d:=(!ulow||decide (v>low+hyst))) (fun K h=>QAh (b:=p) (s:=.val) (x:=.func (.func 490) #[] #[.pointer (some ⟨f,0,none⟩)]) (hv:=rfl) (h:=QYT Qct (xcl (QX1 f ulow uhigh latch low high hyst v L H) rdb ?_))) ?_
    ·rintro⟨c,_⟩ _ ⟨hc,rfl⟩;obtain rfl:c=(!ulow||decide (v>low+hyst)):=hc;exact QAz (ca1 (QAK [Blk p [.I 1,.I 1,.func (.func 489) #[] #[.pointer (some ⟨f,0,none⟩)],.func (.func 490) #[] #[.pointer (some ⟨f,0,none⟩)]],Blk o [.I 1,.I 1,.func (.func 489) #[] #[.pointer (some ⟨f,0,none⟩)],.func (.func 490) #[] #[.pointer (some ⟨f,0,none⟩)],.I 2,.I 2,.func (.func 491) #[] #[.pointer (some ⟨f,0,none⟩)],.func (.func 492) #[] #[.pointer (some ⟨f,0,none⟩)]],Blk f [.bool ulow,.bool uhigh,.bool latch,.I low,.I high,.I hyst],Blk g [.I 0,.bool false],Blk j [.I state,.bool waits],Blk b [.bool ulow,.bool uhigh,.bool latch,.I low,.I high,.I hyst]] h))
    refine QGR (d:=!(latch&&waits)) (fun K h=>QAh (b:=b) (s:=.bool) (x:=latch) (hv:=rfl) (h:=QGR (fun K h=>QAh (b:=j) (s:=.bool) (x:=waits) (hv:=rfl) (h:=h)) h)) ?_;refine xif (fun h=>?_) (fun h=>?_)
    ·rw[We h]at i;subst i;refine QAh (b:=j) (s:=.bool) (x:=waits) (hv:=rfl) (h:=?_);refine QTt (b:=g) (h:=QTt (b:=g) (h:=?_));refine QAh (b:=g) (s:=.I) (x:=0) (hv:=rfl) (h:=QAh (b:=g) (s:=.bool) (x:=waits) (hv:=rfl) (h:=?_));exact QAd (l:=[]) (QAD ⟨rfl,rfl⟩)
    ·rw[QAE 0 Om];exact QAK [Blk o [.I 1,.I 1,.func (.func 489) #[] #[.pointer (some ⟨f,0,none⟩)],.func (.func 490) #[] #[.pointer (some ⟨f,0,none⟩)],.I 2,.I 2,.func (.func 491) #[] #[.pointer (some ⟨f,0,none⟩)],.func (.func 492) #[] #[.pointer (some ⟨f,0,none⟩)]],Blk f [.bool ulow,.bool uhigh,.bool latch,.I low,.I high,.I hyst],Blk g [.I 0,.bool false],Blk j [.I state,.bool waits],Blk b [.bool ulow,.bool uhigh,.bool latch,.I low,.I high,.I hyst]] (y 1 _ _ Om ⟨1,rfl,rfl,Om,fun _=>h,fun h=>Om,rfl⟩)
   ·have z:=z Om;rw[Wb (by rw[z];decide)]at i;refine QV0 Om (2,2,.func (.func 491) #[] #[.pointer (some ⟨f,0,none⟩)],.func (.func 492) #[] #[.pointer (some ⟨f,0,none⟩)],()) rfl (QgN (QAL fun p=>?_));iterate 4 (refine xsq ?_)
    refine QAh (b:=j) (s:=.I) (x:=state) (hv:=rfl) (h:=QAh (b:=p) (s:=.I) (x:=2) (hv:=rfl) (h:=?_));refine QGR (d:=(!uhigh||decide (v<high - hyst))) (fun K h=>QAh (b:=p) (s:=.val) (x:=.func (.func 492) #[] #[.pointer (some ⟨f,0,none⟩)]) (hv:=rfl) (h:=QYT Qd3 (xcl (QXZ f ulow uhigh latch low high hyst v M H) rdb ?_))) ?_
    ·rintro⟨c,_⟩ _ ⟨hc,rfl⟩;obtain rfl:c=(!uhigh||decide (v<high - hyst)):=hc;exact QAz (ca1 (QAK [Blk p [.I 2,.I 2,.func (.func 491) #[] #[.pointer (some ⟨f,0,none⟩)],.func (.func 492) #[] #[.pointer (some ⟨f,0,none⟩)]],Blk o [.I 1,.I 1,.func (.func 489) #[] #[.pointer (some ⟨f,0,none⟩)],.func (.func 490) #[] #[.pointer (some ⟨f,0,none⟩)],.I 2,.I 2,.func (.func 491) #[] #[.pointer (some ⟨f,0,none⟩)],.func (.func 492) #[] #[.pointer (some ⟨f,0,none⟩)]],Blk f [.bool ulow,.bool uhigh,.bool latch,.I low,.I high,.I hyst],Blk g [.I 0,.bool false],Blk j [.I state,.bool waits],Blk b [.bool ulow,.bool uhigh,.bool latch,.I low,.I high,.I hyst]] h))
    refine QGR (d:=!(latch&&waits)) (fun K h=>QAh (b:=b) (s:=.bool) (x:=latch) (hv:=rfl) (h:=QGR (fun K h=>QAh (b:=j) (s:=.bool) (x:=waits) (hv:=rfl) (h:=h)) h)) ?_;refine xif (fun h=>?_) (fun h=>?_)
    ·rw[We h]at i;subst i;refine QAh (b:=j) (s:=.bool) (x:=waits) (hv:=rfl) (h:=?_);refine QTt (b:=g) (h:=QTt (b:=g) (h:=?_));refine QAh (b:=g) (s:=.I) (x:=0) (hv:=rfl) (h:=QAh (b:=g) (s:=.bool) (x:=waits) (hv:=rfl) (h:=?_));exact QAd (l:=[]) (QAD ⟨rfl,rfl⟩)
    ·rw[QAE 1 Om];exact QAK [Blk o [.I 1,.I 1,.func (.func 489) #[] #[.pointer (some ⟨f,0,none⟩)],.func (.func 490) #[] #[.pointer (some ⟨f,0,none⟩)],.I 2,.I 2,.func (.func 491) #[] #[.pointer (some ⟨f,0,none⟩)],.func (.func 492) #[] #[.pointer (some ⟨f,0,none⟩)]],Blk f [.bool ulow,.bool uhigh,.bool latch,.I low,.I high,.I hyst],Blk g [.I 0,.bool false],Blk j [.I state,.bool waits],Blk b [.bool ulow,.bool uhigh,.bool latch,.I low,.I high,.I hyst]] (y 0 _ _ Om ⟨2,rfl,rfl,Om,fun _=>z,fun _=>h,rfl⟩)
  ·have w:k=2:=Om
   subst w;rw[Wb (by rw[z Om];decide),Wb (by rw[O Om];decide)]at i;subst i;refine QAh (b:=j) (s:=.I) (x:=state) (hv:=rfl) (h:=QAh (b:=j) (s:=.bool) (x:=waits) (hv:=rfl) (h:=?_));refine QTt (b:=g) (h:=QTt (b:=g) (h:=?_));refine QAh (b:=g) (s:=.I) (x:=state) (hv:=rfl) (h:=QAh (b:=g) (s:=.bool) (x:=waits) (hv:=rfl) (h:=?_));exact QAd (l:=[]) (QAD ⟨rfl,rfl⟩)
end Go.Cx
namespace Go.Cx
open Go Go.Cf
set_option linter.unusedVariables false
set_option maxRecDepth 100000
variable {B:QBJ}{As F:List HP}
def beK(v:Nat):Nat->Ab
 | 0=>[]
 | j+1=>beK v j++[UInt8.ofNat (v / 2 ^ (56 - 8*j))]
def QGY(v:Nat):Ab:=beK v 8
theorem QQV(v:Nat):∀j,(beK v j).length=j
 | 0=>rfl
 | j+1=>by rw[beK,Wd,QQV v j];rfl
theorem QQT(s:Sl)(xs:Ab)(l:Sl)(vs:Af)(hx:xs.length<=100000)(hl:vs.length<=1000):Ct Pr 155 [s.v,l.v] .one [.slice] [Ar U8 s xs] (RAr I64 l (vs.map fun(v:Nat)=>(v:Int))) (fun t Bs=>Bs=[Ar U8 t.1 (xs++vs.flatMap QGY)]):=by
 refine sp1 (QLV _ _) fun B d=>?_;haveI:Fro B l I64 (vs.map fun(v:Nat)=>(v:Int)):=⟨d⟩
 have hn:vs.length=l.n:=Si d.1
 unfold QLV mf;dsimp only;refine QBt (fun n (f:Sl) (x:Int) As'=>∃k:Nat,x=(k:Int)/\n=vs.length - k/\k<=vs.length/\As'=[Ar U8 f (xs++(vs.take k).flatMap QGY)]) vs.length ⟨0,rfl,rfl,Om,by simp⟩ ?_;rintro n f x As' K ⟨k,rfl,rfl,D,rfl⟩ o
 have q:((vs.take k).flatMap QGY).length=8*k:=by
  rw[List.length_flatMap]
  have:(vs.take k).map (fun a=>(QGY a).length)=List.replicate k 8:=by
   apply List.ext_getElem
   ·simp;omega
   ·intro i h1 C;simp[QGY,QQV]
  rw[this];simp;omega
 refine QAB (fun c=>?_) (fun c=>?_)
 ·have c:k<vs.length:=Om
  obtain⟨v,hv⟩:∃v,vs[k]? = some v:=⟨_,Wa c⟩
  have r:(vs.map fun(v:Nat)=>(v:Int))[k]? = some (v:Int):=by rw[Ol,hv];rfl
  refine QAH (E:=I64) (xs:=vs.map fun(v:Nat)=>(v:Int)) (s:=l) (h1:=by simpa using c) (h:=fun y w=>?_);refine QAN (E:=I64) (xs:=vs.map fun(v:Nat)=>(v:Int)) r (h:=?_);refine QBt (fun n (g:Sl) (i:Int) As'=>∃j:Nat,i=56 - 8*(j:Int)/\n=8 - j/\j<=8/\As'=[Ar U8 g (xs++(vs.take k).flatMap QGY++beK v j)]) 8 ⟨0,rfl,rfl,Om,by rw[beK,Oi]⟩ ?_;rintro n g i As' G ⟨j,rfl,rfl,hj,rfl⟩ p;refine QAB (fun m=>?_) (fun m=>?_)
  ·have m:j<8:=Om
   refine QBA Om ?_
   have u:Int.fdiv (v:Int) (2 ^ (min (Int.toNat (56 - 8*(j:Int))) 64))=((v / 2 ^ (56 - 8*j):Nat):Int):=by
    refine QC7 v _ (2 ^ (56 - 8*j)) ?_;rw[show min (Int.toNat (56 - 8*(j:Int))) 64=56 - 8*j by omega];simp
   rw[u,QAu];refine QAL fun z=>?_;refine QE4 (E:=U8) (UInt8.ofNat (v / 2 ^ (56 - 8*j))) (hb:=by simp[q,QQV];omega) (h:=fun A=>?_);rw[QAC (56 - 8*(j:Int) - 8) Om Om,Wk (xs++(vs.take k).flatMap QGY)];exact p (8 - (j+1)) _ _ _ Om ⟨j+1,Om,rfl,Om,rfl⟩
  ·have:j=8:=Om
   subst this;rw[QAE k Om];refine o (vs.length - (k+1)) _ _ _ Om ⟨k+1,rfl,rfl,Om,?_⟩
   have e:(vs.take k).flatMap QGY++QGY v=(vs.take (k+1)).flatMap QGY:=by
    rw[<-QGB hv,Zf];simp
   rw[<-e,<-Wk];rfl
 ·rw[Wn Om];exact QAD rfl
theorem QfL(v:Nat):QGY v=be8 v:=by
 simp[QGY,be8,beK,Kc]
theorem QVV(v a b:Int):Ct Pr 99 [.I v,.I a,.I b] .one [.bool] [] emp (fun t Bs=>t.1=(decide (v<a)||decide (v>b))/\Bs=[]):=by
 refine sp1 (QPr _ _ _) fun B _=>?_;unfold QPr mf;dsimp only;exact QAD ⟨rfl,rfl⟩
theorem QTR{n lo hi:Int}{K:Bool->WP}(h:Ent B As (K (decide (n<lo)||decide (n>hi)))):Ent B As (QAX Pr 99 [.I n,.I lo,.I hi] .one [.bool] fun(c:Bool)=>K c):=by
 refine QAS (QVV n lo hi) rdb ?_;rintro⟨c,_⟩ _ ⟨hc,rfl⟩;obtain rfl:c=_:=hc;exact QA2 (ca1 h)
def hi8(n:Nat):UInt8:=UInt8.ofNat (n / 256)
def lo8(n:Nat):UInt8:=UInt8.ofNat n
def QZS(t:UInt16)(u:UInt8)(n:Nat):Ab:=[hi8 t.toNat,lo8 t.toNat,0,0,hi8 (1+n),lo8 (1+n),u]
def QhF(t:UInt16)(u:UInt8)(pdu:Ab):Int×Ab:=
 if QGG pdu.length≠0 then (QGG pdu.length,[]) else (0,QZS t u pdu.length++pdu)
theorem QNF{n:Nat}(h:QGG n=0):1<=n/\n<=253:=by
 unfold QGG at h;split at h
 ·cases h
 ·split at h
  ·cases h
  ·omega
structure Qjn where
 err:Int
 tr:Nat
 unit:UInt8
 pdu:Ab
 used:Nat
def QiS(xs:Ab):Qjn:=
 if xs.length<7 then ⟨1,0,0,[],0⟩
 else if be2 xs 2≠0\/be2 xs 4<2\/be2 xs 4>254 then ⟨4,0,0,[],0⟩
 else if xs.length<6+be2 xs 4 then ⟨1,0,0,[],0⟩
 else ⟨0,be2 xs 0,xs.getD 6 0,(xs.take (6+be2 xs 4)).drop 7,6+be2 xs 4⟩
end Go.Cx
