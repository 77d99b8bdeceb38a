/-
Records as words.
-/
import Derived.Test.YthbhbkjkclhkgaaGreatDoorT1
import Derived.Test.YthbhbkjkclhkgaaGreatDoorA4
import Derived.Test.YthbhbkjkclhkgaaGreatDoorA3
import Derived.Test.YthbhbkjkclhkgaaGreatDoorFK1
namespace Go.Cx
open Go Go.Cf
set_option linter.unusedVariables false
set_option maxRecDepth 100000
variable {B:QBG}{As F:List HP}
def W16:Enc Int:=⟨fun x=>[.int .u16 x],1,fun _=>rfl,fun x v h=>by simp at h;subst h;rfl,by decide,0⟩
theorem QRB(b:Sl)(xs:List UInt8)(v:Nat)(hv:v<18446744073709551616)(hm:xs.length≤1048576):Ct Pr 191 [b.v,.int .u64 (v:Int),.I 8] (.tup [none,none]) [.slice,.I] [] (RAr U8 b xs)
  (fun t Bs=>t.2.1=0∧Bs=[Ar U8 t.1 (xs++be8 v)]):=by
 refine sp2 (QT8 _ _ _) fun B hr=>?_;have fb:Fro B b U8 xs:=⟨hr⟩;have hb:=hr.1;unfold QT8 mf;dsimp only;refine QAJ (QBF rfl (QAJ (QBF rfl (QBF rfl ?_))));rw[show IntKind.i64.wrap ((b.n:Int)+8)=((xs.length+8:Nat):Int) by rw[QAD _ (by omega) (by omega)];omega];refine QYi U8 (xs.length+8) (xs.length+8) (by omega) (by omega) (h:=fun b1=>?_);rw[Nat.sub_self];refine QeO (s:=⟨some ⟨b1,0,none⟩,xs.length+8,xs.length+8⟩) (y:=b) (ys:=xs) (fun w hw=>?_) (hl:=by simp) (hn:=by simp) (hc:=Nat.le_refl _) (h:=fun n=>?_)
 ·exact RdA.rd w hw
 refine xar ?_;refine QBV (fun n i As=>∃(k:Nat) (ys:List UInt8),i=(k:Int)∧n=8 - k∧k≤8∧ys.length=xs.length+8∧(∀j,j<xs.length→ys[j]? = xs[j]?)∧(∀j,j<k→ys[xs.length+7 - j]? = some (UInt8.ofNat (v / 256 ^ j)))∧As=[Ar U8 ⟨some ⟨b1,0,none⟩,xs.length+8,xs.length+8⟩ ys]) 8 ⟨0,_,rfl,rfl,by omega,by simp,fun j hj=>by rw[List.getElem?_append_left hj],fun j hj=>by omega,rfl⟩ ?_;rintro n _ _ K ⟨k,ys,rfl,rfl,hk,hl,h1,h2,rfl⟩ hK;refine QAB (fun h=>?_) (fun h=>?_)
 ·have hk8:k<8:=by omega
  obtain⟨e1,e2⟩:=Qaa k hk8;refine QA6 e2 ?_;rw[e1,QCy v _ (256 ^ k) rfl,QAr]
  have ei:IntKind.i64.wrap (IntKind.i64.wrap (((xs.length+8:Nat):Int) - 1) - (k:Int))=((xs.length+7 - k:Nat):Int):=by
   rw[QAD (((xs.length+8:Nat):Int) - 1) (by omega) (by omega),QAD _ (by omega) (by omega)];omega
  rw[ei];have hy:=List.getElem?_eq_getElem (l:=ys) (i:=xs.length+7 - k) (by omega);refine QAI (h1:=by omega) (h:=fun _ _=>?_);refine QHZ (UInt8.ofNat (v / 256 ^ k)) hy (hv:=rfl) (h:=?_);rw[QAF k (by omega)];refine hK (8 - (k+1)) _ _ (by omega) ⟨k+1,_,rfl,rfl,by omega,by simpa using hl,fun j hj=>?_,fun j hj=>?_,rfl⟩
  ·rw[List.getElem?_set_ne (by omega)];exact h1 j hj
  ·rcases Nat.lt_or_ge j k with h3|h3
   ·rw[List.getElem?_set_ne (by omega)];exact h2 j h3
   ·obtain rfl:j=k:=by omega
    rw[List.getElem?_set_self (by omega)]
 ·have hk8:k=8:=by omega
  subst hk8
  have:ys=xs++be8 v:=by
   refine QTt (by rw[List.length_append,QK4,hl]) (fun j hj=>?_);rcases Nat.lt_or_ge j xs.length with h3|h3
   ·rw[h1 j h3,List.getElem?_append_left h3]
   ·have h4:j<xs.length+8:=by rw[List.length_append,QK4]at hj;exact hj
    have:=h2 (xs.length+7 - j) (by omega);rw[show xs.length+7 - (xs.length+7 - j)=j by omega]at this;rw[this,List.getElem?_append_right h3,QYy v (by omega),show 7 - (j - xs.length)=xs.length+7 - j by omega]
  rw[this];exact QAE ⟨rfl,rfl⟩
def QGw:List UInt8→List Int
 | a::b::r=>((a.toNat*256+b.toNat:Nat):Int)::QGw r
 | _=>[]
theorem QMR:∀(xs:List UInt8),(QGw xs).length=xs.length / 2
 | []=>rfl
 | [_]=>by simp[QGw]
 | a::b::r=>by
  show (QGw r).length+1=_;rw[QMR r];simp only[List.length_cons];omega
theorem QQN:∀{xs:List UInt8}{i:Nat}{a b:UInt8},xs[2*i]? = some a→xs[2*i+1]? = some b→(QGw xs)[i]? = some ((a.toNat*256+b.toNat:Nat):Int)
 | [],i,a,b,h,_=>by simp at h
 | [_],i,a,b,h1,h2=>by simp at h2
 | x::y::r,0,a,b,h1,h2=>by
  obtain rfl:x=a:=by simpa using h1
  obtain rfl:y=b:=by simpa using h2
  rfl
 | x::y::r,i+1,a,b,h1,h2=>by
  show (QGw r)[i]? = _;exact QQN (by simpa [Nat.mul_add]using h1) (by simpa [Nat.mul_add]using h2)
theorem QNK(b:Sl)(xs:List UInt8)(he:xs.length % 2=0)(hm:xs.length≤1073741824):Ct Pr 251 [b.v] (.tup [none,none]) [.slice,.I] [] (RAr U8 b xs) (fun t Bs=>t.2.1=0∧Bs=[Ar W16 t.1 (QGw xs)]):=by
 refine sp2 (QHO _) fun B hr=>?_;have fb:Fro B b U8 xs:=⟨hr⟩;have hb:=hr.1;unfold QHO mf;dsimp only
 have e1:((b.n:Int).tmod 2)=0:=by rw[←hb,Int.tmod_eq_emod_of_nonneg (by omega)];omega
 have e2:IntKind.i64.wrap ((b.n:Int).tdiv 2)=((xs.length / 2:Nat):Int):=by
  rw[←hb,Int.tdiv_eq_ediv_of_nonneg (by omega),QAD _ (by omega) (by omega)];omega
 refine QA6 (by decide) (QBF (by rw[e1];rfl) (QA6 (by decide) ?_));rw[e2];refine QRM W16 (by omega) (by omega) (h:=fun b1=>?_);simp only[Int.toNat_natCast];refine QBV (fun n i As=>∃(k:Nat) (ys:List Int),i=(k:Int)∧n=xs.length / 2 - k∧k≤xs.length / 2∧ys.length=xs.length / 2∧(∀j,j<k→ys[j]? = (QGw xs)[j]?)∧As=[Ar W16 ⟨some ⟨b1,0,none⟩,xs.length / 2,xs.length / 2⟩ ys]) (xs.length / 2) ⟨0,_,rfl,rfl,by omega,by simp,fun j hj=>by omega,rfl⟩ ?_;rintro n _ _ K ⟨k,ys,rfl,rfl,hk,hl,h1,rfl⟩ hK;refine QAB (fun h=>?_) (fun h=>?_)
 ·have hlt:k<xs.length / 2:=by omega
  have ha:=List.getElem?_eq_getElem (l:=xs) (i:=2*k) (by omega);have hb':=List.getElem?_eq_getElem (l:=xs) (i:=2*k+1) (by omega)
  have i1:IntKind.i64.wrap (2*(k:Int))=((2*k:Nat):Int):=by rw[QAD _ (by omega) (by omega)];omega
  rw[i1,QAF (2*k) (by omega)];refine QAP (QAI (E:=U8) (xs:=xs) (s:=b) (h1:=by omega) (h:=fun _ _=>?_));refine QAO (E:=U8) (xs:=xs) ha (h:=QA6 (by decide) ?_);refine QAI (E:=U8) (xs:=xs) (s:=b) (h1:=by omega) (h:=fun _ _=>?_);refine QAO (E:=U8) (xs:=xs) hb' (h:=?_);have hy:=List.getElem?_eq_getElem (l:=ys) (i:=k) (by omega)
  have ev:bits .or .u16 (IntKind.u16.wrap ((IntKind.u16.wrap ((xs[2*k].toNat:Nat):Int))*2 ^ (min (Int.toNat 8) 16))) (IntKind.u16.wrap ((xs[2*k+1].toNat:Nat):Int))=((xs[2*k].toNat*256+xs[2*k+1].toNat:Nat):Int):=by
   have h1:=QGh xs[2*k];have h2:=QGh xs[2*k+1]
   have w16:∀n:Nat,n<65536→IntKind.u16.wrap (n:Int)=n:=fun n hn=>by
    have q1:(2 ^ IntKind.u16.bits:Int)=65536:=by decide
    have q3:IntKind.u16.signed=false:=rfl;simp only[IntKind.wrap,q1,q3,Bool.false_and];simp;omega
   have e:(2:Int) ^ (min (Int.toNat 8) 16)=256:=by decide
   rw[e,w16 _ (by omega),show ((xs[2*k].toNat:Nat):Int)*256=((xs[2*k].toNat*256:Nat):Int) by omega,w16 _ (by omega),w16 _ (by omega),u16_or_nat _ _ (by omega) (by omega),show xs[2*k].toNat*256=xs[2*k].toNat*2 ^ 8 from rfl,QNZ _ _ 8 (by omega)]
  refine QAI (E:=W16) (xs:=ys) (s:=⟨some ⟨b1,0,none⟩,xs.length / 2,xs.length / 2⟩) (h1:=by omega) (h:=fun _ _=>?_);rw[ev];refine QHZ (E:=W16) (xs:=ys) ((xs[2*k].toNat*256+xs[2*k+1].toNat:Nat):Int) hy (hv:=rfl) (h:=?_);rw[QAF k (by omega)];refine hK (xs.length / 2 - (k+1)) _ _ (by omega) ⟨k+1,_,rfl,rfl,by omega,by simpa using hl,fun j hj=>?_,rfl⟩;rcases Nat.lt_or_ge j k with h3|h3
  ·rw[List.getElem?_set_ne (by omega)];exact h1 j h3
  ·obtain rfl:j=k:=by omega
   rw[List.getElem?_set_self (by omega),QQN ha hb']
 ·have e:ys=QGw xs:=QTt (by rw[QMR,hl]) fun j hj=>h1 j (by rw[QMR]at hj;omega);rw[e];exact QAE ⟨rfl,rfl⟩
theorem Ars.dropc{α:Type}{E:Enc α}{s:Sl}{xs zs:List α}{h:QBh}(ha:Ars E s xs zs h)(l:Nat)(hl:l≤xs.length):Ars E (s.cut l s.n s.c E.sz) (xs.drop l) zs h:=by
 obtain⟨p,n,c⟩:=s;obtain⟨h1,h2,h3⟩:=ha;simp only at h1 h2 h3;refine⟨by simp[Sl.cut];omega,by simp[Sl.cut];omega,?_⟩;rcases h3 with⟨h4,h5⟩|⟨b,o,pre,post,e,fr,hp,hb,ho,hfr,hM⟩
 ·subst h4 h5;refine .inl ⟨?_,by simp[Sl.cut]⟩;simp only[Sl.cut];split<;>rfl
 ·have e0:pre++QAg E (xs++zs)++post=(pre++QAg E (xs.take l))++QAg E (xs.drop l++zs)++post:=by
   have e1:QAg E (xs++zs)=QAg E (xs.take l)++QAg E (xs.drop l++zs):=by rw[←QAQ,←List.append_assoc,List.take_append_drop]
   rw[e1];simp only[List.append_assoc]
  have hpl:(pre++QAg E (xs.take l)).length=o+l*E.sz:=by rw[List.length_append,QAG,ho,List.length_take,Nat.min_eq_left hl]
  by_cases hc:c=l
  ·refine .inr ⟨b,o,pre,QAg E xs++post,e,fr,?_,?_,ho,?_,by simp only[Sl.cut];omega⟩
   ·simp only[Sl.cut];rw[if_pos hc,hp]
   ·have ez:zs=[]:=List.eq_nil_of_length_eq_zero (by omega);have ed:xs.drop l=[]:=List.eq_nil_of_length_eq_zero (by simp;omega);rw[ed,ez,hb,ez];simp[QAg]
   ·intro i hi;refine hfr i ?_;have ez:zs=[]:=List.eq_nil_of_length_eq_zero (by omega);have ed:xs.drop l=[]:=List.eq_nil_of_length_eq_zero (by simp;omega);rw[ed,ez]at hi;rw[ez];simpa [QAg]using hi
  ·refine .inr ⟨b,o+l*E.sz,pre++QAg E (xs.take l),post,e,fr,?_,by rw[←e0];exact hb,hpl,by rw[←e0];exact hfr,by simp only[Sl.cut];omega⟩;simp only[Sl.cut];rw[if_neg hc,hp];simp[QCM]
def QgU(v:Int):Nat:=(IntKind.u64.wrap v).toNat
def QZa(v:Int)(k:Nat):List Int:=(QGw (be8 (QgU v))).drop (4 - k)
def Qft(s:ByteArray):List UInt8:=s.data.toList.take (min s.size 16)++(List.replicate 16 (0:UInt8)).drop (min s.size 16)
def Qf3(s:Sl)(rs:List Sl)(ws:List (List Int)):HP:=fun h=>RAr SL s rs h∧rs.length=ws.length∧∀(i:Nat) (r:Sl) (x:List Int),rs[i]? = some r→ws[i]? = some x→RAr W16 r x h
def Qhl(seq:Int)(r:RE):List Int:=[QZa r.time 3,QZa seq 3,QZa r.kind 1,QZa r.val 4,QZa r.id 3,QGw (Qft r.tag)].flatten
def Qef(seq:Int)(r:RE):List Int×Int:=if QCe r≠0 then ([],QCe r) else if seq<0∨seq>1099511627776 then ([],3) else (Qhl seq r,0)
def byU(x:Int):UInt8:=UInt8.ofNat (IntKind.u8.wrap x).toNat
theorem QLU(x:Int):((byU x).toNat:Int)=IntKind.u8.wrap x:=by
 have e1:(2 ^ IntKind.u8.bits:Int)=256:=by decide
 have e3:IntKind.u8.signed=false:=rfl
 have h:0≤IntKind.u8.wrap x∧IntKind.u8.wrap x<256:=by
  simp only[IntKind.wrap,e1,e3,Bool.false_and];simp;omega
 unfold byU;rw[UInt8.toNat_ofNat'];omega
def QZS(v:Int)(i:Nat):UInt8:=byU (Int.fdiv v (2 ^ (min i 64)))
def QBz(v:Int):List UInt8:=(List.range 8).map fun j=>QZS v (56 - 8*j)
theorem QHF(v:Int):(QBz v).length=8:=by simp[QBz]
theorem QVt(v:Int){j:Nat}(h:j<8):(QBz v)[j]? = some (QZS v (56 - 8*j)):=by
 unfold QBz;rw[List.getElem?_map,List.getElem?_range h];rfl
theorem QW7(b l:Sl)(xs:List UInt8)(vs:List Int)(hm:xs.length+8*vs.length≤140737488351232):Ct Pr 373 [b.v,l.v] .one [.slice] [Ar U8 b xs] (RAr I64 l vs) (fun t Bs=>Bs=[Ar U8 t.1 (xs++vs.flatMap QBz)]):=by
 refine sp1 (QJz _ _) fun B hr=>?_;have fl:Fro B l I64 vs:=⟨hr⟩;have hn:=hr.1;unfold QJz mf;dsimp only;refine QBb (fun n (s:Sl) (x:Int) As'=>∃k:Nat,x=(k:Int)∧n=vs.length - k∧k≤vs.length∧As'=[Ar U8 s (xs++(vs.take k).flatMap QBz)]) vs.length ⟨0,rfl,rfl,by omega,by simp⟩ ?_;rintro n s _ _ K ⟨k,rfl,rfl,hk,rfl⟩ hK
 have hlen:∀(l:List Int),(l.flatMap QBz).length=8*l.length:=by
  intro l
  induction l with
  | nil=>rfl
  | cons y l ih=>rw[List.flatMap_cons,List.length_append,ih,QHF,List.length_cons];omega
 refine QAB (fun h=>?_) (fun h=>?_)
 ·have hlt:k<vs.length:=by omega
  have hv:=List.getElem?_eq_getElem hlt;refine QAI (E:=I64) (xs:=vs) (s:=l) (h1:=hlt) (h:=fun v hv=>?_);refine QAO (E:=I64) (xs:=vs) hv (h:=?_);refine QBb (fun n (s:Sl) (x:Int) As'=>∃j:Nat,x=56 - 8*(j:Int)∧n=8 - j∧j≤8∧As'=[Ar U8 s (xs++(vs.take k).flatMap QBz++(QBz v).take j)]) 8 ⟨0,rfl,rfl,by omega,by simp⟩ ?_;rintro n s2 _ _ K2 ⟨j,rfl,rfl,hj,rfl⟩ hK2;have hl2:=hlen (vs.take k)
  have hl3:(vs.take k).length≤vs.length:=by simp;omega
  refine QAB (fun h2=>?_) (fun h2=>?_)
  ·have hj8:j<8:=by omega
   refine QA6 (by omega) (QAL fun b3=>?_)
   have e:(56 - 8*(j:Int)).toNat=56 - 8*j:=by omega
   refine QEQ (E:=U8) (QZS v (56 - 8*j)) (hx:=?_) (hb:=?_) (h:=fun s'=>?_)
   ·show [Value.int .u8 ((QZS v (56 - 8*j)).toNat:Int)]=_;unfold QZS;rw[QLU,e]
   ·have h5:((QBz v).take j).length≤8:=by rw[List.length_take,QHF];omega
    rw[List.length_append,List.length_append];omega
   ·rw[QAD _ (by omega) (by omega)];refine hK2 (8 - (j+1)) _ _ _ (by omega) ⟨j+1,by omega,rfl,by omega,?_⟩;rw[List.take_add_one,QVt v hj8];simp
  ·have hj8:j=8:=by omega
   subst hj8;rw[QAF k (by omega),List.take_of_length_le (l:=QBz v) (by rw[QHF];omega)];refine hK (vs.length - (k+1)) _ _ _ (by omega) ⟨k+1,rfl,rfl,by omega,?_⟩;rw[List.take_add_one,hv];simp
 ·have hk:k=vs.length:=by omega
  subst hk;rw[List.take_of_length_le (by omega)];exact QAE rfl
def Qcb(r:RE):List UInt8:=(byU r.kind::QBz r.time) ++
 (if r.kind=1∨r.kind=2 then (byU r.tag.size::r.tag.data.toList)++QBz r.val
 else if r.kind=5 then QBz r.id
 else if r.kind=6 then QBz r.id++QBz r.val
 else QBz r.val)
def QUb(r:RE):List UInt8×Int:=if QCe r≠0 then ([],QCe r) else (Qcb r,0)
theorem Qdd(r:RE)(hs:r.tag.size≤1000000):Ct Pr 270 [r.v] (.tup [none,none]) [.slice,.I] [] emp (fun t Bs=>t.2.1=(QUb r).2∧Bs=[Ar U8 t.1 (QUb r).1]):=by
 refine sp2 (QOI _ _ _ _ _) fun B _=>?_;unfold QOI mf;dsimp only;refine QAL fun b=>?_;iterate 5 (refine xgq ?_)
 refine QAR (QMP r) rdb ?_;rintro⟨x,_⟩ _ ⟨hx,rfl⟩;simp only at hx;subst hx;refine QAz (ca1 (xif (fun h=>?_) (fun h=>?_)))
 ·have h':QCe r≠0:=by simpa using h
  have e:QUb r=([],QCe r):=by unfold QUb;rw[if_pos h']
  refine QAd U8 (QAM [Ar U8 ⟨none,0,0⟩ []] (QAE ⟨by rw[e],by rw[e]⟩))
 have h':QCe r=0:=by simpa using h
 have e:QUb r=(Qcb r,0):=by unfold QUb;rw[if_neg (by rw[h'];simp)]
 have fin:∀{s:Sl}{G:List HP}{ys:List UInt8},ys=Qcb r→Ent B (Ar U8 s ys::G) (Ret B (ss:=[.slice,.I]) (fun t Bs=>t.2.1=(QUb r).2∧Bs=[Ar U8 t.1 (QUb r).1]) (s,0,())):=by
  rintro s G _ rfl;exact QAa (l:=[Ar U8 s (Qcb r)]) (QAE ⟨by rw[e],by rw[e]⟩)
 refine xgq (QAL fun b1=>xgq (QAL fun b2=>?_));refine QAf 1 (Q:=Ar U8 ⟨some ⟨b1,0,none⟩,1,1⟩ [byU r.kind]) (fun g hg=>⟨[],QAm [byU r.kind] 1 rfl (by show [Value.int .u8 ((byU r.kind).toNat:Int)]=_;rw[QLU]) hg⟩) ?_
 have eight:∀{As:List HP}(s:Sl) (xs:List UInt8) (bk:Nat) (vs:List Int) (cs:List Value) (_:QAg I64 vs=cs) {G G':List HP}{K:Sl→WP}(k:Nat) (_:vs.length=k) (_:k≤2) (_:xs.length≤2000000) [q:Find (Blk bk cs) As G] [q2:Find (Ar U8 s xs) G G'],
   (∀s',Ent B (Ar U8 s' (xs++vs.flatMap QBz)::G') (K s'))→Ent B As (QAe Pr 373 [s.v,.slice (some ⟨bk,0,none⟩) k k] .one [.slice] K):=by
  rintro As s xs bk vs cs hcs G G' K k hk hk2 hx q q2 hK;refine Ent.perm q.perm ?_;refine QAf 0 (Q:=Ar I64 ⟨some ⟨bk,0,none⟩,k,k⟩ vs) (fun g hg=>⟨[],QAm vs k hk hcs hg (by omega)⟩) ?_;refine Ent.perm ((q2.perm.cons _).trans (List.Perm.swap _ _ _)) ?_;refine QeZ 0 (QW7 s ⟨some ⟨bk,0,none⟩,k,k⟩ xs vs (by omega)) rdb ?_;rintro⟨s',_⟩ _ rfl;exact QA8 (ca1 (QB1 1 (hK s')))
 refine eight ⟨some ⟨b1,0,none⟩,1,1⟩ [byU r.kind] b2 [r.time] [.I r.time] rfl 1 rfl (by decide) (by simp) fun s=>?_
 have e1:[byU r.kind]++[r.time].flatMap QBz=byU r.kind::QBz r.time:=by simp
 rw[e1];have hel:=QHF r.time;refine xgq ?_;refine QAU (fun(x:Bool) As'=>x=(r.kind == 1||r.kind == 2)∧As'=[Ar U8 s (byU r.kind::QBz r.time),Blk b r.cells]) (fun K1 hK1=>xif (fun h=>QKZ (hK1 _ _ ⟨by rw[h];rfl,rfl⟩)) (fun h=>QKZ (hK1 _ _ ⟨by rw[h];rfl,rfl⟩))) ?_;rintro _ _ ⟨rfl,rfl⟩;refine xif (fun h1=>?_) (fun h1=>?_)
 ·have h1':r.kind=1∨r.kind=2:=by simpa using h1
  refine QAP (xgq (xgq (QAL fun b3=>?_)));refine QEQ (E:=U8) (byU r.tag.size) (hx:=by show [Value.int .u8 ((byU r.tag.size).toNat:Int)]=_;rw[QLU]) (hb:=by rw[List.length_cons,hel];decide) (h:=fun s1=>QC7 (h:=?_));refine Qfu (by kernel_rfl) (hb:=by rw[List.length_append,List.length_cons,hel,List.length_singleton];omega) (h:=fun s2=>xgq (QAL fun b4=>?_))
  have h9:((byU r.kind::QBz r.time)++[byU r.tag.size]++r.tag.data.toList).length≤2000000:=by
   have h8:r.tag.data.toList.length=r.tag.size:=by simp
   rw[List.length_append,List.length_append,List.length_cons,hel,h8,List.length_singleton];omega
  refine eight s2 ((byU r.kind::QBz r.time)++[byU r.tag.size]++r.tag.data.toList) b4 [r.val] [.I r.val] rfl 1 rfl (by decide) h9 fun s3=>?_;refine fin ?_;unfold Qcb;rw[if_pos h1'];simp
 ·have h1':¬(r.kind=1∨r.kind=2):=by simpa using h1
  refine xif (fun h2=>?_) (fun h2=>?_)
  ·refine xgq (QAL fun b4=>?_);refine eight s (byU r.kind::QBz r.time) b4 [r.id] [.I r.id] rfl 1 rfl (by decide) (by rw[List.length_cons,hel];decide) fun s3=>?_;refine fin ?_;unfold Qcb;rw[if_neg h1',if_pos (eq_of_beq h2)];simp
  ·refine xif (fun h3=>?_) (fun h3=>?_)
   ·refine xgq (xgq (QAL fun b4=>?_));refine eight s (byU r.kind::QBz r.time) b4 [r.id,r.val] [.I r.id,.I r.val] rfl 2 rfl (by decide) (by rw[List.length_cons,hel];decide) fun s3=>?_;refine fin ?_;unfold Qcb;rw[if_neg h1',if_neg (by simpa using h2),if_pos (eq_of_beq h3)];simp
   ·refine xgq (QAL fun b4=>?_);refine eight s (byU r.kind::QBz r.time) b4 [r.val] [.I r.val] rfl 1 rfl (by decide) (by rw[List.length_cons,hel];decide) fun s3=>?_;refine fin ?_;unfold Qcb;rw[if_neg h1',if_neg (by simpa using h2),if_neg (by simpa using h3)];simp
theorem ca6{s1 s2 s3 s4 s5 s6:Sh}{K:s1.ty→s2.ty→s3.ty→s4.ty→s5.ty→s6.ty→WP}{a:s1.ty}{b:s2.ty}{c:s3.ty}{d:s4.ty}{e:s5.ty}{f:s6.ty}{u:Unit}(h:Ent B As (K a b c d e f)):Ent B As (Cur.app [s1,s2,s3,s4,s5,s6] K (a,b,c,d,e,f,u)):=h
def QVD(lg:LM)(n:Int):RE×Bool:=if (QHw lg n).2≠0 then (rec0,false) else ((QE8 (QHw lg n).1).1,(QE8 (QHw lg n).1).2 == 0)
def QeA(lg:LM)(from':Int):Nat→Int→Bool
 | 0,_=>true
 | k+1,n=>if (QVD lg n).2 then decide (from'≤(QVD lg n).1.time) else QeA lg from' k (n+1)
def Qf6(lg:LM)(from':Int):Bool:=if lg.lo=0 then false else QeA lg from' (lg.next - lg.lo).toNat lg.lo
def QdX(lg:LM):Nat→List Int→List Int→List Int
 | _,out,[]=>out
 | rows,out,n::ns=>if (QVD lg n).2=false then QdX lg rows out ns else if rows+1>454 then out else QdX lg (rows+1) (out++(Qef n (QVD lg n).1).1) ns
def QdW(lg:LM)(X:XM)(span file:Int):List Int×Int:=
 if span<1∨span>1048576∨file<1∨file>65535 then ([],3)
 else if Qf6 lg ((file - 1)*span)=true then ([],31)
 else (QdX lg 0 [] (Qhg X ((file - 1)*span) ((file - 1)*span+span) lg.lo),0)
theorem QZJ{α:Type}{P:α→Bool}:∀{L:List α}{k:Nat}{y:α},k≤(L.takeWhile P).length→L[k]? = some y→P y=true→k+1≤(L.takeWhile P).length
 | [],k,y,_,h,_=>by simp at h
 | x::L,k,y,hk,hy,hp=>by
  cases hx:P x with
  | false=>
   rw[List.takeWhile_cons_of_neg (by rw[hx];simp)]at hk
   obtain rfl:k=0:=by simpa using hk
   obtain rfl:x=y:=by simpa using hy
   rw[hx]at hp;cases hp
  | true=>
   rw[List.takeWhile_cons_of_pos hx]at hk⊢
   cases k with
   | zero=>simp
   | succ k=>
    simp only[List.length_cons]at hk⊢;have:=QZJ (L:=L) (k:=k) (by omega) (by simpa using hy) hp;omega
theorem QTI{α:Type}{P:α→Bool}:∀{L:List α}{k:Nat},k≤(L.takeWhile P).length→(∀y,L[k]? = some y→P y=false)→(L.takeWhile P).length=k
 | [],k,hk,_=>by simp at hk⊢;omega
 | x::L,k,hk,hn=>by
  cases hx:P x with
  | false=>
   rw[List.takeWhile_cons_of_neg (by rw[hx];simp)]at hk⊢;simp at hk⊢;omega
  | true=>
   rw[List.takeWhile_cons_of_pos hx]at hk⊢
   cases k with
   | zero=>have:=hn x rfl;rw[hx]at this;cases this
   | succ k=>
    simp only[List.length_cons]at hk⊢;have:=QTI (L:=L) (k:=k) (by omega) (fun y hy=>hn y (by simpa using hy));omega
theorem QX6(b:Nat)(p:Option Addr)(l:LM)(s:Sl)(cs:List CS)(to:Int)(hs:s.n=cs.length)(hf:LF cs l.segs)(hi:LInv l):Ct Pr 332 [.pointer (some ⟨b,0,none⟩),.I to,.I 1] .one [.I] [Blk b (QAo p l s),Ar SEG s cs] emp
  (fun t Bs=>t.1=(QGy l to 1:Int)∧Bs=[Blk b (QAo p l s),Ar SEG s cs]):=by
 refine sp1 (QHf _ _ _) fun B _=>?_;unfold QHf mf;dsimp only;have hfew:=hi.few;have hl:=hf.len;refine QAP (QAS (xgq ?_))
 have e1:(if (1:Int)>1 then (1:Int) else 1)=1:=by decide
 rw[e1,QAD _ (by omega) (by omega)];generalize hL:l.segs.take (l.segs.length - (max (1:Int) 1).toNat)=L
 have hd:QGy l to 1=(L.takeWhile fun s=>decide (s.next≤min to l.safe)).length:=by unfold QGy;rw[hL]
 have hget:∀k:Nat,L[k]? = if k<cs.length - 1 then l.segs[k]? else none:=fun k=>by
  rw[←hL,List.getElem?_take,show (max (1:Int) 1).toNat=1 from rfl,hl]
 rw[hd];refine QBV (fun n (x:Int) As'=>∃k:Nat,x=(k:Int)∧n=cs.length - k∧k≤cs.length∧k≤(L.takeWhile fun s=>decide (s.next≤min to l.safe)).length∧As'=[Blk b (QAo p l s),Ar SEG s cs]) cs.length ⟨0,rfl,rfl,by omega,by omega,rfl⟩ ?_;rintro n _ _ K ⟨k,rfl,rfl,hk,hk2,rfl⟩ hK;refine QAP (QAU (fun(c:Bool) As'=>(c=true→k+1≤(L.takeWhile fun s=>decide (s.next≤min to l.safe)).length∧k+1≤cs.length)∧(c=false→(L.takeWhile fun s=>decide (s.next≤min to l.safe)).length=k)∧As'=[Blk b (QAo p l s),Ar SEG s cs]) (fun K1 hK1=>?_) ?_)
 ·refine QAB (fun h=>?_) (fun h=>?_)
  ·have hlt:k<cs.length - 1:=by omega
   obtain⟨c,hc⟩:∃c,cs[k]? = some c:=⟨_,List.getElem?_eq_getElem (by omega)⟩;obtain⟨sg,hsg⟩:∃sg,l.segs[k]? = some sg:=⟨_,List.getElem?_eq_getElem (by omega)⟩;obtain⟨g1,g2,g3,g4,g5⟩:=hf.each k c sg hc hsg;obtain⟨b1,b2,b3,b4,b5⟩:=hi.segs sg (List.mem_of_getElem? hsg)
   have hLk:L[k]? = some sg:=by rw[hget,if_pos hlt,hsg]
   refine QAS (xgq ?_);refine QAI (E:=SEG) (xs:=cs) (s:=s) (h1:=by omega) (h:=fun _ _=>?_);refine QAO (E:=SEG) (xs:=cs) hc (h:=?_);iterate 3 (refine QAb (E:=SEG) (xs:=cs) hc (h:=?_))
   refine QAS (xgq ?_);refine QAR (QGs c.1 c.2.1 c.2.2.1 c.2.2.2) rdb ?_;rintro⟨t,_⟩ _ ⟨ht,rfl⟩;simp only at ht;subst ht
   have hnx:IntKind.i64.wrap (c.2.1+(c.2.2.2.n:Int))=sg.next:=by
    rw[QAD _ (by omega) (by omega),g2,g4];rfl
   refine QAz (ca1 (QC7 (h:=?_)));rw[hnx]
   have hmin:(decide (sg.next≤if l.safe<to then l.safe else to))=decide (sg.next≤min to l.safe):=by
    congr 1;rw[Int.min_def];split<;>split <;> (first|rfl|(apply propext;constructor<;>intro<;>omega))
   rw[hmin]
   exact hK1 _ _ ⟨fun e=>⟨QZJ hk2 hLk e,by omega⟩,fun e=>QTI hk2 fun y hy=>by
    rw[hLk]at hy;obtain rfl:=Option.some.inj hy
    exact e,rfl⟩
  ·refine hK1 _ _ ⟨fun e=>(by cases e),fun _=>QTI hk2 fun y hy=>?_,rfl⟩;rw[hget,if_neg (by omega)]at hy;cases hy
 ·rintro c _ ⟨h1,h2,rfl⟩;refine xif (fun h=>?_) (fun h=>?_)
  ·obtain⟨q1,q2⟩:=h1 h;rw[QAF k (by omega)];exact hK (cs.length - (k+1)) _ _ (by omega) ⟨k+1,rfl,rfl,by omega,q1,rfl⟩
  ·exact QAE ⟨by rw[h2 h],rfl⟩
def QXZ(X:XM)(k:KY):XM:=if k.1<0∨k.1>1099511627776∨k.2<0∨k.2>1099511627776 then X else if k.2≤X.last then X else QU2 X k.1 k.2
theorem QYP(x d l:Option Addr)(X:XM)(k:KY)(hL:X.L.length≤4000000000000000):Ct Pr 272 [.pointer x,.I k.1,.I k.2] .one [.I] [QBt x d l X] emp (fun t Bs=>Bs=[QBt x d l (QXZ X k)]):=by
 refine sp1 (QGn _ _ _) fun B _=>?_;unfold QGn mf;dsimp only;refine xif (fun h=>?_) (fun h=>?_)
 ·have e:QXZ X k=X:=by unfold QXZ;rw[if_pos (by simp at h;omega)]
  rw[e];exact QAE rfl
 have h':¬(k.1<0∨k.1>1099511627776∨k.2<0∨k.2>1099511627776):=by simp at h;omega
 refine Qci 0 fun b q hx=>?_;subst hx;refine QAS (xgq ?_);refine QID b q d l X ?_;refine QAB (fun h2=>?_) (fun h2=>?_)
 ·have e:QXZ X k=X:=by unfold QXZ;rw[if_neg h',if_pos h2]
  rw[e];exact QAE rfl
 ·have e:QXZ X k=QU2 X k.1 k.2:=by unfold QXZ;rw[if_neg h',if_neg h2]
  refine xcl (QQF (some ⟨b,0,none⟩) d l X k.1 k.2 hL) rdb ?_;rintro _ _ rfl;rw[e];exact QA8 (ca0 (QAE rfl))
end Go.Cx
namespace Go.Cx
open Go Go.Cf
set_option linter.unusedVariables false
set_option maxRecDepth 100000
section
variable {B:QBG}{As:List HP}
theorem QTV(p:Option Addr)(m:DM)(nm to:ByteArray):Ct Pr 193 [.pointer p,.string nm,.string to] .one [.I] [QAC p m] emp
  (fun t Bs=>t.1=(QCH m nm to).2∧Bs=[QAC p (QCH m nm to).1]):=by
 refine sp1 (QDm _ _ _) fun B _=>?_;unfold QDm mf;dsimp only;refine QXU 0 fun hi b s cs hp sf hsn=>?_;subst hp;have hinv:=QOb hi nm to;unfold QCH at hinv⊢;refine xcl (QFl b s cs m nm hi.sorted sf hi.len) rdb ?_;rintro⟨r,c,_⟩ _ ⟨h1,h2,rfl⟩;simp only at h1 h2;subst h1 h2;refine QBM (ca2 ?_);refine xcl (QNU to) rdb ?_;rintro⟨c,_⟩ _ ⟨h1,rfl⟩;simp only at h1;subst h1;refine QAz (ca1 (xif (fun hn=>?_) (fun hn=>?_)))
 ·rw[if_pos hn];exact QBC b s cs hi (QAE ⟨rfl,rfl⟩)
 rw[if_neg (by simpa using hn)]at hinv⊢;refine QAS (xgq (xif (fun hd=>?_) (fun hd=>xif (fun ht=>?_) (fun ht=>?_))))
 ·rw[QFk hd];exact QBC b s cs hi (QAE ⟨rfl,rfl⟩)
 ·rw[QGB hd (by simpa using ht)];exact QBC b s cs hi (QAE ⟨rfl,rfl⟩)
 have ht:QAi m.fs nm.toList=true:=by simpa using ht
 rw[QI5 hd ht]at hinv⊢;obtain⟨c,f,hc,hf,hgd,e1,e2,e3,e4,hfb,_,_⟩:=QPi (p:=none) hi sf ht;rw[hgd]at hinv⊢;have hlt:=(List.getElem?_eq_some_iff.1 hc).1;have hltf:=(List.getElem?_eq_some_iff.1 hf).1;have hlen:=hi.len;have hcl:=sf.len;obtain⟨q1,q2⟩:=QCU m;refine QAS ?_;refine xcl (QG1 b s m hi.left.1 hi.left.2) rdb ?_;rintro⟨r,_⟩ _ ⟨hr,rfl⟩;simp only at hr;subst hr;refine QA8 (ca1 (xif (fun hsp=>?_) (fun hsp=>?_)))
 ·rw[QKs (by simpa using hsp)]at hinv⊢;exact QCA 0 0 0 b s cs (QAp m).1 hinv (fun _ h=>by rw[q1];exact h) (QAE ⟨rfl,rfl⟩)
 rw[QKx (by simpa using hsp)]at hinv⊢;simp only[q1]at hinv⊢;have hse:=QCg (i:=QAT m.fs nm.toList) hi.sorted
 generalize QAT m.fs nm.toList=i at *
 refine QAS (xgq ?_);refine QAI (h1:=hlt) (h:=fun _ _=>?_);refine QAO hc (h:=?_);refine QAb hc (h:=?_);refine QAb hc (h:=QAL fun b1=>xsq (xsq (xsq (xsq (QAS (xgq ?_))))));rw[QAF _ (by omega)];refine xcl (QLl s cs i hlt (by omega)) rdb ?_;rintro⟨s',_⟩ _ rfl;refine QA8 (ca1 (QAS (xsq ?_)));refine QdH 3 [QB8 c f,Each QB8 (cs.eraseIdx i) (m.fs.eraseIdx i)] (fun g hg=>QCB hg hc hf) (QBM ?_);refine QCC 1 (fun g hg=>Qau hg) fun sf'=>?_
 have hlen':(m.fs.eraseIdx i).length≤64:=by rw[List.length_eraseIdx,if_pos hltf];omega
 have hcl':=sf'.len;refine xcl (QFl b s' (cs.eraseIdx i) { (QAp m).1 with fs:=m.fs.eraseIdx i } to hse sf' hlen') rdb ?_;rintro⟨r,cc,_⟩ _ ⟨h1,h2,rfl⟩;simp only at h1 h2;subst h1 h2;refine QBM (ca2 ?_);unfold QQp at hinv⊢;simp only at hinv⊢;refine QAJ (xif (fun hw=>?_) (fun hw=>?_))
 ·rw[if_pos hw]at hinv⊢;obtain⟨hg,_⟩:=QCK (d:=⟨to,[],0⟩) hw;generalize (m.fs.eraseIdx i).getD (QAT (m.fs.eraseIdx i) to.toList) ⟨to,[],0⟩=f1 at hg
  have hlt1:QAT (m.fs.eraseIdx i) to.toList<(cs.eraseIdx i).length:=by rw[hcl'];exact (List.getElem?_eq_some_iff.1 hg).1
  have hg1:=List.getElem?_eq_getElem hlt1;generalize (cs.eraseIdx i)[QAT (m.fs.eraseIdx i) to.toList]=c1 at hg1
  generalize QAT (m.fs.eraseIdx i) to.toList=j at *
  refine QAP (QAS (xgq (xgq (xgq (xgq ?_)))));refine QAI (h1:=hlt1) (h:=fun _ _=>?_);refine QHZ (to,c1.2.1,c1.2.2) hg1 (hv:=rfl) (h:=?_);have g2:((cs.eraseIdx i).set j (to,c1.2.1,c1.2.2))[j]? = some (to,c1.2.1,c1.2.2):=List.getElem?_set_self hlt1;refine QCr (to,c.2.1,c1.2.2) g2 (hj:=by decide) (hv:=rfl) (h:=?_);rw[List.set_set];have g3:((cs.eraseIdx i).set j (to,c.2.1,c1.2.2))[j]? = some (to,c.2.1,c1.2.2):=List.getElem?_set_self hlt1;refine QCr (to,c.2.1,c.2.2) g3 (hj:=by decide) (hv:=rfl) (h:=?_);rw[List.set_set]
  -- Blk b, Ar FILE, FileR, Each, Blk b1
  refine QRI 2 2 (Q:=Each QB8 ((cs.eraseIdx i).set j (to,c.2.1,c.2.2)) ((m.fs.eraseIdx i).set j { f with nm:=to })) (fun g hgg=>?_) ?_
  ·refine QDJ hlt1 (List.getElem?_eq_some_iff.1 hg).1 ?_;refine QA2 (P:=QB8 c f) (fun q hq=>(⟨rfl,hq.2.1,hq.2.2⟩:QB8 (to,c.2.1,c.2.2) { f with nm:=to } q)) ?_;refine QBA (l:=[Each QB8 (cs.eraseIdx i) (m.fs.eraseIdx i)]) (fun q hq=>?_) hgg;obtain⟨a,_,pa,_,_,sa,_⟩:=hq;obtain⟨a1,b1,_,pb1,_,_,sb1⟩:=QCB pa hg1 hg;exact QCV _ pb1 (sb1.trans sa)
  exact QCA 1 1 0 b s' ((cs.eraseIdx i).set j (to,c.2.1,c.2.2)) _ hinv (fun _ h=>h) (QB1 1 (QAE ⟨rfl,rfl⟩))
 ·rw[if_neg (by rw[hw];simp)]at hinv⊢;have hle:=QFf (m.fs.eraseIdx i) to.toList
  generalize QAT (m.fs.eraseIdx i) to.toList=j at *
  refine QAP (QAS (xgq (xgq (xgq (xgq (QfZ fun b2=>?_))))));refine xcl (QMY s' (cs.eraseIdx i) j b2 (to,c.2.1,c.2.2) (by omega) (by omega)) rdb ?_;rintro⟨s2,_⟩ _ rfl;refine QA8 (ca1 (QAS (xsq ?_)))
  -- Ar FILE, Blk b, FileR, Each, Blk b1
  refine QRI 2 2 (Q:=Each QB8 ((cs.eraseIdx i).take j++(to,c.2.1,c.2.2)::(cs.eraseIdx i).drop j) (QLf (m.fs.eraseIdx i) j { f with nm:=to })) (fun g hgg=>?_) ?_
  ·exact QUF j (QA2 (P:=QB8 c f) (fun q hq=>(⟨rfl,hq.2.1,hq.2.2⟩:QB8 (to,c.2.1,c.2.2) { f with nm:=to } q)) hgg)
  exact QCA 2 1 0 b s2 ((cs.eraseIdx i).take j++(to,c.2.1,c.2.2)::(cs.eraseIdx i).drop j) _ hinv (fun _ h=>h) (QB1 1 (QAE ⟨rfl,rfl⟩))
end
variable {B:QBG}{As F:List HP}
end Go.Cx
namespace Go.Cx
open Go Go.Cf
set_option linter.unusedVariables false
set_option maxRecDepth 100000
variable {B:QBG}{As F:List HP}
end Go.Cx
namespace Go.Cx
open Go Go.Cf
set_option linter.unusedVariables false
set_option maxRecDepth 100000
variable {B:QBG}{As F:List HP}{α:Type}
abbrev P3:=Int×Int×Int
def PaE:Enc P3:=⟨fun k=>[.I k.1,.I k.2.1,.I k.2.2],3,fun _=>rfl,fun x v h=>by simp at h;rcases h with rfl|rfl|rfl<;>rfl,by decide,(0,0,0)⟩
def QXw(p:P3):Bool:=decide (p.1<1)||decide (p.1>65535)||decide (p.2.1<0)||decide (p.2.1≥10000)||decide (p.2.2<1)||decide (p.2.2>10000 - p.2.1)
def QWo(room:Int):List P3→Int
 | []=>if room<0 then 2 else 0
 | p::ps=>if QXw p=true then 3 else QWo (room - (2+2*p.2.2)) ps
theorem QYQ:∀(ps:List P3) (room:Int),QWo room ps=0→∀p∈ps,QXw p=false
 | [],_,_,p,hp=>by simp at hp
 | q::ps,room,h,p,hp=>by
  rw[QWo]at h
  cases hq:QXw q with
  | true=>rw[if_pos hq]at h;cases h
  | false=>
   rw[if_neg (by rw[hq];simp)]at h;rcases List.mem_cons.1 hp with rfl|hp
   ·exact hq
   ·exact QYQ ps _ h p hp
def Qck(lg:LM)(X:XM)(span:Int):List P3→Option (List (List Int))
 | []=>some []
 | p::ps=>if (QdW lg X span p.1).2≠0∨p.2.1+p.2.2>((QdW lg X span p.1).1.length:Int) then none
  else (Qck lg X span ps).map (((QdW lg X span p.1).1.take (p.2.1+p.2.2).toNat).drop p.2.1.toNat :: ·)
end Go.Cx
