import Derived.Test.YthbhbkjkclhkgaaGreatDoorT1
import Derived.Test.YthbhbkjkclhkgaaGreatDoorA4
import Derived.Test.YthbhbkjkclhkgaaGreatDoorA3
import Derived.Test.YthbhbkjkclhkgaaGreatDoorFK1
namespace Go.Cx
open Go Go.Cf
set_option linter.unusedVariables false
set_option maxRecDepth 100000
variable {B:QBE}{As F:List HP}
def W16:Enc Int:=⟨fun x=>[.int .u16 x],1,fun _=>rfl,fun x v h=>by simp at h;subst h;rfl,by decide,0⟩
theorem QRT(b:Sl)(xs:List UInt8)(v:Nat)(hv:v<18446744073709551616)(hm:xs.length≤1048576):Ct Pr 191 [b.v,.int .u64 (v:Int),.I 8] (.tup [none,none]) [.slice,.I] [] (RAr U8 b xs)
  (fun t Bs=>t.2.1=0∧Bs=[Ar U8 t.1 (xs++be8 v)]):=by
 refine sp2 (QUU _ _ _) fun B hr=>?_;have fb:Fro B b U8 xs:=⟨hr⟩;have hb:=hr.1;unfold QUU mf;dsimp only;refine QAJ (QBF rfl (QAJ (QBF rfl (QBF rfl ?_))));rw[show IntKind.i64.wrap ((b.n:Int)+8)=((xs.length+8:Nat):Int) by rw[QAB _ (by omega) (by omega)];omega];refine QYn U8 (xs.length+8) (xs.length+8) (by omega) (by omega) (h:=fun b1=>?_);rw[Nat.sub_self];refine QfF (s:=⟨some ⟨b1,0,none⟩,xs.length+8,xs.length+8⟩) (y:=b) (ys:=xs) (fun w hw=>?_) (hl:=by simp) (hn:=by simp) (hc:=Nat.le_refl _) (h:=fun n=>?_)
 ·exact RdA.rd w hw
 refine xar ?_;refine QBP (fun n i As=>∃(k:Nat) (ys:List UInt8),i=(k:Int)∧n=8 - k∧k≤8∧ys.length=xs.length+8∧(∀j,j<xs.length→ys[j]? = xs[j]?)∧(∀j,j<k→ys[xs.length+7 - j]? = some (UInt8.ofNat (v / 256 ^ j)))∧As=[Ar U8 ⟨some ⟨b1,0,none⟩,xs.length+8,xs.length+8⟩ ys]) 8 ⟨0,_,rfl,rfl,by omega,by simp,fun j hj=>by rw[List.getElem?_append_left hj],fun j hj=>by omega,rfl⟩ ?_;rintro n _ _ K ⟨k,ys,rfl,rfl,hk,hl,h1,h2,rfl⟩ hK;refine QAA (fun h=>?_) (fun h=>?_)
 ·have hk8:k<8:=by omega
  obtain⟨e1,e2⟩:=QaQ k hk8;refine QA6 e2 ?_;rw[e1,QCw v _ (256 ^ k) rfl,QAr]
  have ei:IntKind.i64.wrap (IntKind.i64.wrap (((xs.length+8:Nat):Int) - 1) - (k:Int))=((xs.length+7 - k:Nat):Int):=by
   rw[QAB (((xs.length+8:Nat):Int) - 1) (by omega) (by omega),QAB _ (by omega) (by omega)];omega
  rw[ei];have hy:=List.getElem?_eq_getElem (l:=ys) (i:=xs.length+7 - k) (by omega);refine QAH (h1:=by omega) (h:=fun _ _=>?_);refine QHd (UInt8.ofNat (v / 256 ^ k)) hy (hv:=rfl) (h:=?_);rw[QAF k (by omega)];refine hK (8 - (k+1)) _ _ (by omega) ⟨k+1,_,rfl,rfl,by omega,by simpa using hl,fun j hj=>?_,fun j hj=>?_,rfl⟩
  ·rw[List.getElem?_set_ne (by omega)];exact h1 j hj
  ·rcases Nat.lt_or_ge j k with h3|h3
   ·rw[List.getElem?_set_ne (by omega)];exact h2 j h3
   ·obtain rfl:j=k:=by omega
    rw[List.getElem?_set_self (by omega)]
 ·have hk8:k=8:=by omega
  subst hk8
  have:ys=xs++be8 v:=by
   refine QTw (by rw[List.length_append,QMn,hl]) (fun j hj=>?_);rcases Nat.lt_or_ge j xs.length with h3|h3
   ·rw[h1 j h3,List.getElem?_append_left h3]
   ·have h4:j<xs.length+8:=by rw[List.length_append,QMn]at hj;exact hj
    have:=h2 (xs.length+7 - j) (by omega);rw[show xs.length+7 - (xs.length+7 - j)=j by omega]at this;rw[this,List.getElem?_append_right h3,QZr v (by omega),show 7 - (j - xs.length)=xs.length+7 - j by omega]
  rw[this];exact QAD ⟨rfl,rfl⟩
def QGz:List UInt8→List Int
 | a::b::r=>((a.toNat*256+b.toNat:Nat):Int)::QGz r
 | _=>[]
theorem QK7:∀(xs:List UInt8),(QGz xs).length=xs.length / 2
 | []=>rfl
 | [_]=>by simp[QGz]
 | a::b::r=>by
  show (QGz r).length+1=_;rw[QK7 r];simp only[List.length_cons];omega
theorem QQk:∀{xs:List UInt8}{i:Nat}{a b:UInt8},xs[2*i]? = some a→xs[2*i+1]? = some b→(QGz xs)[i]? = some ((a.toNat*256+b.toNat:Nat):Int)
 | [],i,a,b,h,_=>by simp at h
 | [_],i,a,b,h1,h2=>by simp at h2
 | x::y::r,0,a,b,h1,h2=>by
  obtain rfl:x=a:=by simpa using h1
  obtain rfl:y=b:=by simpa using h2
  rfl
 | x::y::r,i+1,a,b,h1,h2=>by
  show (QGz r)[i]? = _;exact QQk (by simpa [Nat.mul_add]using h1) (by simpa [Nat.mul_add]using h2)
theorem QM4(b:Sl)(xs:List UInt8)(he:xs.length % 2=0)(hm:xs.length≤1073741824):Ct Pr 251 [b.v] (.tup [none,none]) [.slice,.I] [] (RAr U8 b xs) (fun t Bs=>t.2.1=0∧Bs=[Ar W16 t.1 (QGz xs)]):=by
 refine sp2 (QHO _) fun B hr=>?_;have fb:Fro B b U8 xs:=⟨hr⟩;have hb:=hr.1;unfold QHO mf;dsimp only
 have e1:((b.n:Int).tmod 2)=0:=by rw[←hb,Int.tmod_eq_emod_of_nonneg (by omega)];omega
 have e2:IntKind.i64.wrap ((b.n:Int).tdiv 2)=((xs.length / 2:Nat):Int):=by
  rw[←hb,Int.tdiv_eq_ediv_of_nonneg (by omega),QAB _ (by omega) (by omega)];omega
 refine QA6 (by decide) (QBF (by rw[e1];rfl) (QA6 (by decide) ?_));rw[e2];refine QRK W16 (by omega) (by omega) (h:=fun b1=>?_);simp only[Int.toNat_natCast];refine QBP (fun n i As=>∃(k:Nat) (ys:List Int),i=(k:Int)∧n=xs.length / 2 - k∧k≤xs.length / 2∧ys.length=xs.length / 2∧(∀j,j<k→ys[j]? = (QGz xs)[j]?)∧As=[Ar W16 ⟨some ⟨b1,0,none⟩,xs.length / 2,xs.length / 2⟩ ys]) (xs.length / 2) ⟨0,_,rfl,rfl,by omega,by simp,fun j hj=>by omega,rfl⟩ ?_;rintro n _ _ K ⟨k,ys,rfl,rfl,hk,hl,h1,rfl⟩ hK;refine QAA (fun h=>?_) (fun h=>?_)
 ·have hlt:k<xs.length / 2:=by omega
  have ha:=List.getElem?_eq_getElem (l:=xs) (i:=2*k) (by omega);have hb':=List.getElem?_eq_getElem (l:=xs) (i:=2*k+1) (by omega)
  have i1:IntKind.i64.wrap (2*(k:Int))=((2*k:Nat):Int):=by rw[QAB _ (by omega) (by omega)];omega
  rw[i1,QAF (2*k) (by omega)];refine QAO (QAH (E:=U8) (xs:=xs) (s:=b) (h1:=by omega) (h:=fun _ _=>?_));refine QAN (E:=U8) (xs:=xs) ha (h:=QA6 (by decide) ?_);refine QAH (E:=U8) (xs:=xs) (s:=b) (h1:=by omega) (h:=fun _ _=>?_);refine QAN (E:=U8) (xs:=xs) hb' (h:=?_);have hy:=List.getElem?_eq_getElem (l:=ys) (i:=k) (by omega)
  have ev:bits .or .u16 (IntKind.u16.wrap ((IntKind.u16.wrap ((xs[2*k].toNat:Nat):Int))*2 ^ (min (Int.toNat 8) 16))) (IntKind.u16.wrap ((xs[2*k+1].toNat:Nat):Int))=((xs[2*k].toNat*256+xs[2*k+1].toNat:Nat):Int):=by
   have h1:=QGe xs[2*k];have h2:=QGe xs[2*k+1]
   have w16:∀n:Nat,n<65536→IntKind.u16.wrap (n:Int)=n:=fun n hn=>by
    have q1:(2 ^ IntKind.u16.bits:Int)=65536:=by decide
    have q3:IntKind.u16.signed=false:=rfl;simp only[IntKind.wrap,q1,q3,Bool.false_and];simp;omega
   have e:(2:Int) ^ (min (Int.toNat 8) 16)=256:=by decide
   rw[e,w16 _ (by omega),show ((xs[2*k].toNat:Nat):Int)*256=((xs[2*k].toNat*256:Nat):Int) by omega,w16 _ (by omega),w16 _ (by omega),u16_or_nat _ _ (by omega) (by omega),show xs[2*k].toNat*256=xs[2*k].toNat*2 ^ 8 from rfl,QOD _ _ 8 (by omega)]
  refine QAH (E:=W16) (xs:=ys) (s:=⟨some ⟨b1,0,none⟩,xs.length / 2,xs.length / 2⟩) (h1:=by omega) (h:=fun _ _=>?_);rw[ev];refine QHd (E:=W16) (xs:=ys) ((xs[2*k].toNat*256+xs[2*k+1].toNat:Nat):Int) hy (hv:=rfl) (h:=?_);rw[QAF k (by omega)];refine hK (xs.length / 2 - (k+1)) _ _ (by omega) ⟨k+1,_,rfl,rfl,by omega,by simpa using hl,fun j hj=>?_,rfl⟩;rcases Nat.lt_or_ge j k with h3|h3
  ·rw[List.getElem?_set_ne (by omega)];exact h1 j h3
  ·obtain rfl:j=k:=by omega
   rw[List.getElem?_set_self (by omega),QQk ha hb']
 ·have e:ys=QGz xs:=QTw (by rw[QK7,hl]) fun j hj=>h1 j (by rw[QK7]at hj;omega);rw[e];exact QAD ⟨rfl,rfl⟩
theorem Ars.dropc{α:Type}{E:Enc α}{s:Sl}{xs zs:List α}{h:QBe}(ha:Ars E s xs zs h)(l:Nat)(hl:l≤xs.length):Ars E (s.cut l s.n s.c E.sz) (xs.drop l) zs h:=by
 obtain⟨p,n,c⟩:=s;obtain⟨h1,h2,h3⟩:=ha;simp only at h1 h2 h3;refine⟨by simp[Sl.cut];omega,by simp[Sl.cut];omega,?_⟩;rcases h3 with⟨h4,h5⟩|⟨b,o,pre,post,e,fr,hp,hb,ho,hfr,hM⟩
 ·subst h4 h5;refine .inl ⟨?_,by simp[Sl.cut]⟩;simp only[Sl.cut];split<;>rfl
 ·have e0:pre++QAf E (xs++zs)++post=(pre++QAf E (xs.take l))++QAf E (xs.drop l++zs)++post:=by
   have e1:QAf E (xs++zs)=QAf E (xs.take l)++QAf E (xs.drop l++zs):=by rw[←QAP,←List.append_assoc,List.take_append_drop]
   rw[e1];simp only[List.append_assoc]
  have hpl:(pre++QAf E (xs.take l)).length=o+l*E.sz:=by rw[List.length_append,QAG,ho,List.length_take,Nat.min_eq_left hl]
  by_cases hc:c=l
  ·refine .inr ⟨b,o,pre,QAf E xs++post,e,fr,?_,?_,ho,?_,by simp only[Sl.cut];omega⟩
   ·simp only[Sl.cut];rw[if_pos hc,hp]
   ·have ez:zs=[]:=List.eq_nil_of_length_eq_zero (by omega);have ed:xs.drop l=[]:=List.eq_nil_of_length_eq_zero (by simp;omega);rw[ed,ez,hb,ez];simp[QAf]
   ·intro i hi;refine hfr i ?_;have ez:zs=[]:=List.eq_nil_of_length_eq_zero (by omega);have ed:xs.drop l=[]:=List.eq_nil_of_length_eq_zero (by simp;omega);rw[ed,ez]at hi;rw[ez];simpa [QAf]using hi
  ·refine .inr ⟨b,o+l*E.sz,pre++QAf E (xs.take l),post,e,fr,?_,by rw[←e0];exact hb,hpl,by rw[←e0];exact hfr,by simp only[Sl.cut];omega⟩;simp only[Sl.cut];rw[if_neg hc,hp];simp[QCR]
def Qfu(v:Int):Nat:=(IntKind.u64.wrap v).toNat
def QXx(v:Int)(k:Nat):List Int:=(QGz (be8 (Qfu v))).drop (4 - k)
def QgP(s:ByteArray):List UInt8:=s.data.toList.take (min s.size 16)++(List.replicate 16 (0:UInt8)).drop (min s.size 16)
def Qfs(s:Sl)(rs:List Sl)(ws:List (List Int)):HP:=fun h=>RAr SL s rs h∧rs.length=ws.length∧∀(i:Nat) (r:Sl) (x:List Int),rs[i]? = some r→ws[i]? = some x→RAr W16 r x h
def QhT(seq:Int)(r:RE):List Int:=[QXx r.time 3,QXx seq 3,QXx r.kind 1,QXx r.val 4,QXx r.id 3,QGz (QgP r.tag)].flatten
def Qe3(seq:Int)(r:RE):List Int×Int:=if QCo r≠0 then ([],QCo r) else if seq<0∨seq>1099511627776 then ([],3) else (QhT seq r,0)
def byU(x:Int):UInt8:=UInt8.ofNat (IntKind.u8.wrap x).toNat
theorem QLq(x:Int):((byU x).toNat:Int)=IntKind.u8.wrap x:=by
 have e1:(2 ^ IntKind.u8.bits:Int)=256:=by decide
 have e3:IntKind.u8.signed=false:=rfl
 have h:0≤IntKind.u8.wrap x∧IntKind.u8.wrap x<256:=by
  simp only[IntKind.wrap,e1,e3,Bool.false_and];simp;omega
 unfold byU;rw[UInt8.toNat_ofNat'];omega
def QXw(v:Int)(i:Nat):UInt8:=byU (Int.fdiv v (2 ^ (min i 64)))
def QB0(v:Int):List UInt8:=(List.range 8).map fun j=>QXw v (56 - 8*j)
theorem QHR(v:Int):(QB0 v).length=8:=by simp[QB0]
theorem QVu(v:Int){j:Nat}(h:j<8):(QB0 v)[j]? = some (QXw v (56 - 8*j)):=by
 unfold QB0;rw[List.getElem?_map,List.getElem?_range h];rfl
theorem QW7(b l:Sl)(xs:List UInt8)(vs:List Int)(hm:xs.length+8*vs.length≤140737488351232):Ct Pr 373 [b.v,l.v] .one [.slice] [Ar U8 b xs] (RAr I64 l vs) (fun t Bs=>Bs=[Ar U8 t.1 (xs++vs.flatMap QB0)]):=by
 refine sp1 (QJ9 _ _) fun B hr=>?_;have fl:Fro B l I64 vs:=⟨hr⟩;have hn:=hr.1;unfold QJ9 mf;dsimp only;refine QBb (fun n (s:Sl) (x:Int) As'=>∃k:Nat,x=(k:Int)∧n=vs.length - k∧k≤vs.length∧As'=[Ar U8 s (xs++(vs.take k).flatMap QB0)]) vs.length ⟨0,rfl,rfl,by omega,by simp⟩ ?_;rintro n s _ _ K ⟨k,rfl,rfl,hk,rfl⟩ hK
 have hlen:∀(l:List Int),(l.flatMap QB0).length=8*l.length:=by
  intro l
  induction l with
  | nil=>rfl
  | cons y l ih=>rw[List.flatMap_cons,List.length_append,ih,QHR,List.length_cons];omega
 refine QAA (fun h=>?_) (fun h=>?_)
 ·have hlt:k<vs.length:=by omega
  have hv:=List.getElem?_eq_getElem hlt;refine QAH (E:=I64) (xs:=vs) (s:=l) (h1:=hlt) (h:=fun v hv=>?_);refine QAN (E:=I64) (xs:=vs) hv (h:=?_);refine QBb (fun n (s:Sl) (x:Int) As'=>∃j:Nat,x=56 - 8*(j:Int)∧n=8 - j∧j≤8∧As'=[Ar U8 s (xs++(vs.take k).flatMap QB0++(QB0 v).take j)]) 8 ⟨0,rfl,rfl,by omega,by simp⟩ ?_;rintro n s2 _ _ K2 ⟨j,rfl,rfl,hj,rfl⟩ hK2;have hl2:=hlen (vs.take k)
  have hl3:(vs.take k).length≤vs.length:=by simp;omega
  refine QAA (fun h2=>?_) (fun h2=>?_)
  ·have hj8:j<8:=by omega
   refine QA6 (by omega) (QAL fun b3=>?_)
   have e:(56 - 8*(j:Int)).toNat=56 - 8*j:=by omega
   refine QEc (E:=U8) (QXw v (56 - 8*j)) (hx:=?_) (hb:=?_) (h:=fun s'=>?_)
   ·show [Value.int .u8 ((QXw v (56 - 8*j)).toNat:Int)]=_;unfold QXw;rw[QLq,e]
   ·have h5:((QB0 v).take j).length≤8:=by rw[List.length_take,QHR];omega
    rw[List.length_append,List.length_append];omega
   ·rw[QAB _ (by omega) (by omega)];refine hK2 (8 - (j+1)) _ _ _ (by omega) ⟨j+1,by omega,rfl,by omega,?_⟩;rw[List.take_add_one,QVu v hj8];simp
  ·have hj8:j=8:=by omega
   subst hj8;rw[QAF k (by omega),List.take_of_length_le (l:=QB0 v) (by rw[QHR];omega)];refine hK (vs.length - (k+1)) _ _ _ (by omega) ⟨k+1,rfl,rfl,by omega,?_⟩;rw[List.take_add_one,hv];simp
 ·have hk:k=vs.length:=by omega
  subst hk;rw[List.take_of_length_le (by omega)];exact QAD rfl
def Qcd(r:RE):List UInt8:=(byU r.kind::QB0 r.time) ++
 (if r.kind=1∨r.kind=2 then (byU r.tag.size::r.tag.data.toList)++QB0 r.val
 else if r.kind=5 then QB0 r.id
 else if r.kind=6 then QB0 r.id++QB0 r.val
 else QB0 r.val)
def QWL(r:RE):List UInt8×Int:=if QCo r≠0 then ([],QCo r) else (Qcd r,0)
theorem Qda(r:RE)(hs:r.tag.size≤1000000):Ct Pr 270 [r.v] (.tup [none,none]) [.slice,.I] [] emp (fun t Bs=>t.2.1=(QWL r).2∧Bs=[Ar U8 t.1 (QWL r).1]):=by
 refine sp2 (QOK _ _ _ _ _) fun B _=>?_;unfold QOK mf;dsimp only;refine QAL fun b=>?_;iterate 5 (refine xgq ?_)
 refine QAR (QMg r) rdb ?_;rintro⟨x,_⟩ _ ⟨hx,rfl⟩;simp only at hx;subst hx;refine QAy (ca1 (xif (fun h=>?_) (fun h=>?_)))
 ·have h':QCo r≠0:=by simpa using h
  have e:QWL r=([],QCo r):=by unfold QWL;rw[if_pos h']
  refine QAd U8 (QAK [Ar U8 ⟨none,0,0⟩ []] (QAD ⟨by rw[e],by rw[e]⟩))
 have h':QCo r=0:=by simpa using h
 have e:QWL r=(Qcd r,0):=by unfold QWL;rw[if_neg (by rw[h'];simp)]
 have fin:∀{s:Sl}{G:List HP}{ys:List UInt8},ys=Qcd r→Ent B (Ar U8 s ys::G) (Ret B (ss:=[.slice,.I]) (fun t Bs=>t.2.1=(QWL r).2∧Bs=[Ar U8 t.1 (QWL r).1]) (s,0,())):=by
  rintro s G _ rfl;exact QAa (l:=[Ar U8 s (Qcd r)]) (QAD ⟨by rw[e],by rw[e]⟩)
 refine xgq (QAL fun b1=>xgq (QAL fun b2=>?_));refine QAe 1 (Q:=Ar U8 ⟨some ⟨b1,0,none⟩,1,1⟩ [byU r.kind]) (fun g hg=>⟨[],QAm [byU r.kind] 1 rfl (by show [Value.int .u8 ((byU r.kind).toNat:Int)]=_;rw[QLq]) hg⟩) ?_
 have eight:∀{As:List HP}(s:Sl) (xs:List UInt8) (bk:Nat) (vs:List Int) (cs:List Value) (_:QAf I64 vs=cs) {G G':List HP}{K:Sl→WP}(k:Nat) (_:vs.length=k) (_:k≤2) (_:xs.length≤2000000) [q:Find (Blk bk cs) As G] [q2:Find (Ar U8 s xs) G G'],
   (∀s',Ent B (Ar U8 s' (xs++vs.flatMap QB0)::G') (K s'))→Ent B As (QAb Pr 373 [s.v,.slice (some ⟨bk,0,none⟩) k k] .one [.slice] K):=by
  rintro As s xs bk vs cs hcs G G' K k hk hk2 hx q q2 hK;refine Ent.perm q.perm ?_;refine QAe 0 (Q:=Ar I64 ⟨some ⟨bk,0,none⟩,k,k⟩ vs) (fun g hg=>⟨[],QAm vs k hk hcs hg (by omega)⟩) ?_;refine Ent.perm ((q2.perm.cons _).trans (List.Perm.swap _ _ _)) ?_;refine QeV 0 (QW7 s ⟨some ⟨bk,0,none⟩,k,k⟩ xs vs (by omega)) rdb ?_;rintro⟨s',_⟩ _ rfl;exact QA5 (ca1 (QB5 1 (hK s')))
 refine eight ⟨some ⟨b1,0,none⟩,1,1⟩ [byU r.kind] b2 [r.time] [.I r.time] rfl 1 rfl (by decide) (by simp) fun s=>?_
 have e1:[byU r.kind]++[r.time].flatMap QB0=byU r.kind::QB0 r.time:=by simp
 rw[e1];have hel:=QHR r.time;refine xgq ?_;refine QAS (fun(x:Bool) As'=>x=(r.kind == 1||r.kind == 2)∧As'=[Ar U8 s (byU r.kind::QB0 r.time),Blk b r.cells]) (fun K1 hK1=>xif (fun h=>QKd (hK1 _ _ ⟨by rw[h];rfl,rfl⟩)) (fun h=>QKd (hK1 _ _ ⟨by rw[h];rfl,rfl⟩))) ?_;rintro _ _ ⟨rfl,rfl⟩;refine xif (fun h1=>?_) (fun h1=>?_)
 ·have h1':r.kind=1∨r.kind=2:=by simpa using h1
  refine QAO (xgq (xgq (QAL fun b3=>?_)));refine QEc (E:=U8) (byU r.tag.size) (hx:=by show [Value.int .u8 ((byU r.tag.size).toNat:Int)]=_;rw[QLq]) (hb:=by rw[List.length_cons,hel];decide) (h:=fun s1=>QC6 (h:=?_));refine Qfg (by kernel_rfl) (hb:=by rw[List.length_append,List.length_cons,hel,List.length_singleton];omega) (h:=fun s2=>xgq (QAL fun b4=>?_))
  have h9:((byU r.kind::QB0 r.time)++[byU r.tag.size]++r.tag.data.toList).length≤2000000:=by
   have h8:r.tag.data.toList.length=r.tag.size:=by simp
   rw[List.length_append,List.length_append,List.length_cons,hel,h8,List.length_singleton];omega
  refine eight s2 ((byU r.kind::QB0 r.time)++[byU r.tag.size]++r.tag.data.toList) b4 [r.val] [.I r.val] rfl 1 rfl (by decide) h9 fun s3=>?_;refine fin ?_;unfold Qcd;rw[if_pos h1'];simp
 ·have h1':¬(r.kind=1∨r.kind=2):=by simpa using h1
  refine xif (fun h2=>?_) (fun h2=>?_)
  ·refine xgq (QAL fun b4=>?_);refine eight s (byU r.kind::QB0 r.time) b4 [r.id] [.I r.id] rfl 1 rfl (by decide) (by rw[List.length_cons,hel];decide) fun s3=>?_;refine fin ?_;unfold Qcd;rw[if_neg h1',if_pos (eq_of_beq h2)];simp
  ·refine xif (fun h3=>?_) (fun h3=>?_)
   ·refine xgq (xgq (QAL fun b4=>?_));refine eight s (byU r.kind::QB0 r.time) b4 [r.id,r.val] [.I r.id,.I r.val] rfl 2 rfl (by decide) (by rw[List.length_cons,hel];decide) fun s3=>?_;refine fin ?_;unfold Qcd;rw[if_neg h1',if_neg (by simpa using h2),if_pos (eq_of_beq h3)];simp
   ·refine xgq (QAL fun b4=>?_);refine eight s (byU r.kind::QB0 r.time) b4 [r.val] [.I r.val] rfl 1 rfl (by decide) (by rw[List.length_cons,hel];decide) fun s3=>?_;refine fin ?_;unfold Qcd;rw[if_neg h1',if_neg (by simpa using h2),if_neg (by simpa using h3)];simp
theorem ca6{s1 s2 s3 s4 s5 s6:Sh}{K:s1.ty→s2.ty→s3.ty→s4.ty→s5.ty→s6.ty→WP}{a:s1.ty}{b:s2.ty}{c:s3.ty}{d:s4.ty}{e:s5.ty}{f:s6.ty}{u:Unit}(h:Ent B As (K a b c d e f)):Ent B As (Cur.app [s1,s2,s3,s4,s5,s6] K (a,b,c,d,e,f,u)):=h
def QUL(lg:LM)(n:Int):RE×Bool:=if (QH6 lg n).2≠0 then (rec0,false) else ((QE6 (QH6 lg n).1).1,(QE6 (QH6 lg n).1).2 == 0)
def QeS(lg:LM)(from':Int):Nat→Int→Bool
 | 0,_=>true
 | k+1,n=>if (QUL lg n).2 then decide (from'≤(QUL lg n).1.time) else QeS lg from' k (n+1)
def Qf7(lg:LM)(from':Int):Bool:=if lg.lo=0 then false else QeS lg from' (lg.next - lg.lo).toNat lg.lo
def Qci(lg:LM):Nat→List Int→List Int→List Int
 | _,out,[]=>out
 | rows,out,n::ns=>if (QUL lg n).2=false then Qci lg rows out ns else if rows+1>454 then out else Qci lg (rows+1) (out++(Qe3 n (QUL lg n).1).1) ns
def Qdc(lg:LM)(X:XM)(span file:Int):List Int×Int:=
 if span<1∨span>1048576∨file<1∨file>65535 then ([],3)
 else if Qf7 lg ((file - 1)*span)=true then ([],31)
 else (Qci lg 0 [] (QhI X ((file - 1)*span) ((file - 1)*span+span) lg.lo),0)
theorem QYv{α:Type}{P:α→Bool}:∀{L:List α}{k:Nat}{y:α},k≤(L.takeWhile P).length→L[k]? = some y→P y=true→k+1≤(L.takeWhile P).length
 | [],k,y,_,h,_=>by simp at h
 | x::L,k,y,hk,hy,hp=>by
  cases hx:P x with
  | false=>
   rw[List.takeWhile_cons_of_neg (by rw[hx];simp)]at hk
   obtain rfl:k=0:=by simpa using hk
   obtain rfl:x=y:=by simpa using hy
   rw[hx]at hp;cases hp
  | true=>
   rw[List.takeWhile_cons_of_pos hx]at hk⊢
   cases k with
   | zero=>simp
   | succ k=>
    simp only[List.length_cons]at hk⊢;have:=QYv (L:=L) (k:=k) (by omega) (by simpa using hy) hp;omega
theorem QTq{α:Type}{P:α→Bool}:∀{L:List α}{k:Nat},k≤(L.takeWhile P).length→(∀y,L[k]? = some y→P y=false)→(L.takeWhile P).length=k
 | [],k,hk,_=>by simp at hk⊢;omega
 | x::L,k,hk,hn=>by
  cases hx:P x with
  | false=>
   rw[List.takeWhile_cons_of_neg (by rw[hx];simp)]at hk⊢;simp at hk⊢;omega
  | true=>
   rw[List.takeWhile_cons_of_pos hx]at hk⊢
   cases k with
   | zero=>have:=hn x rfl;rw[hx]at this;cases this
   | succ k=>
    simp only[List.length_cons]at hk⊢;have:=QTq (L:=L) (k:=k) (by omega) (fun y hy=>hn y (by simpa using hy));omega
theorem QXh(b:Nat)(p:Option Addr)(l:LM)(s:Sl)(cs:List CS)(to:Int)(hs:s.n=cs.length)(hf:LF cs l.segs)(hi:LInv l):Ct Pr 332 [.pointer (some ⟨b,0,none⟩),.I to,.I 1] .one [.I] [Blk b (QAp p l s),Ar SEG s cs] emp
  (fun t Bs=>t.1=(QGd l to 1:Int)∧Bs=[Blk b (QAp p l s),Ar SEG s cs]):=by
 refine sp1 (QHl _ _ _) fun B _=>?_;unfold QHl mf;dsimp only;have hfew:=hi.few;have hl:=hf.len;refine QAO (QAQ (xgq ?_))
 have e1:(if (1:Int)>1 then (1:Int) else 1)=1:=by decide
 rw[e1,QAB _ (by omega) (by omega)];generalize hL:l.segs.take (l.segs.length - (max (1:Int) 1).toNat)=L
 have hd:QGd l to 1=(L.takeWhile fun s=>decide (s.next≤min to l.safe)).length:=by unfold QGd;rw[hL]
 have hget:∀k:Nat,L[k]? = if k<cs.length - 1 then l.segs[k]? else none:=fun k=>by
  rw[←hL,List.getElem?_take,show (max (1:Int) 1).toNat=1 from rfl,hl]
 rw[hd];refine QBP (fun n (x:Int) As'=>∃k:Nat,x=(k:Int)∧n=cs.length - k∧k≤cs.length∧k≤(L.takeWhile fun s=>decide (s.next≤min to l.safe)).length∧As'=[Blk b (QAp p l s),Ar SEG s cs]) cs.length ⟨0,rfl,rfl,by omega,by omega,rfl⟩ ?_;rintro n _ _ K ⟨k,rfl,rfl,hk,hk2,rfl⟩ hK;refine QAO (QAS (fun(c:Bool) As'=>(c=true→k+1≤(L.takeWhile fun s=>decide (s.next≤min to l.safe)).length∧k+1≤cs.length)∧(c=false→(L.takeWhile fun s=>decide (s.next≤min to l.safe)).length=k)∧As'=[Blk b (QAp p l s),Ar SEG s cs]) (fun K1 hK1=>?_) ?_)
 ·refine QAA (fun h=>?_) (fun h=>?_)
  ·have hlt:k<cs.length - 1:=by omega
   obtain⟨c,hc⟩:∃c,cs[k]? = some c:=⟨_,List.getElem?_eq_getElem (by omega)⟩;obtain⟨sg,hsg⟩:∃sg,l.segs[k]? = some sg:=⟨_,List.getElem?_eq_getElem (by omega)⟩;obtain⟨g1,g2,g3,g4,g5⟩:=hf.each k c sg hc hsg;obtain⟨b1,b2,b3,b4,b5⟩:=hi.segs sg (List.mem_of_getElem? hsg)
   have hLk:L[k]? = some sg:=by rw[hget,if_pos hlt,hsg]
   refine QAQ (xgq ?_);refine QAH (E:=SEG) (xs:=cs) (s:=s) (h1:=by omega) (h:=fun _ _=>?_);refine QAN (E:=SEG) (xs:=cs) hc (h:=?_);iterate 3 (refine QAZ (E:=SEG) (xs:=cs) hc (h:=?_))
   refine QAQ (xgq ?_);refine QAR (QGX c.1 c.2.1 c.2.2.1 c.2.2.2) rdb ?_;rintro⟨t,_⟩ _ ⟨ht,rfl⟩;simp only at ht;subst ht
   have hnx:IntKind.i64.wrap (c.2.1+(c.2.2.2.n:Int))=sg.next:=by
    rw[QAB _ (by omega) (by omega),g2,g4];rfl
   refine QAy (ca1 (QC6 (h:=?_)));rw[hnx]
   have hmin:(decide (sg.next≤if l.safe<to then l.safe else to))=decide (sg.next≤min to l.safe):=by
    congr 1;rw[Int.min_def];split<;>split <;> (first|rfl|(apply propext;constructor<;>intro<;>omega))
   rw[hmin]
   exact hK1 _ _ ⟨fun e=>⟨QYv hk2 hLk e,by omega⟩,fun e=>QTq hk2 fun y hy=>by
    rw[hLk]at hy;obtain rfl:=Option.some.inj hy
    exact e,rfl⟩
  ·refine hK1 _ _ ⟨fun e=>(by cases e),fun _=>QTq hk2 fun y hy=>?_,rfl⟩;rw[hget,if_neg (by omega)]at hy;cases hy
 ·rintro c _ ⟨h1,h2,rfl⟩;refine xif (fun h=>?_) (fun h=>?_)
  ·obtain⟨q1,q2⟩:=h1 h;rw[QAF k (by omega)];exact hK (cs.length - (k+1)) _ _ (by omega) ⟨k+1,rfl,rfl,by omega,q1,rfl⟩
  ·exact QAD ⟨by rw[h2 h],rfl⟩
def QXS(X:XM)(k:KY):XM:=if k.1<0∨k.1>1099511627776∨k.2<0∨k.2>1099511627776 then X else if k.2≤X.last then X else QVW X k.1 k.2
theorem QZL(x d l:Option Addr)(X:XM)(k:KY)(hL:X.L.length≤4000000000000000):Ct Pr 272 [.pointer x,.I k.1,.I k.2] .one [.I] [QBt x d l X] emp (fun t Bs=>Bs=[QBt x d l (QXS X k)]):=by
 refine sp1 (QGy _ _ _) fun B _=>?_;unfold QGy mf;dsimp only;refine xif (fun h=>?_) (fun h=>?_)
 ·have e:QXS X k=X:=by unfold QXS;rw[if_pos (by simp at h;omega)]
  rw[e];exact QAD rfl
 have h':¬(k.1<0∨k.1>1099511627776∨k.2<0∨k.2>1099511627776):=by simp at h;omega
 refine QcE 0 fun b q hx=>?_;subst hx;refine QAQ (xgq ?_);refine QH1 b q d l X ?_;refine QAA (fun h2=>?_) (fun h2=>?_)
 ·have e:QXS X k=X:=by unfold QXS;rw[if_neg h',if_pos h2]
  rw[e];exact QAD rfl
 ·have e:QXS X k=QVW X k.1 k.2:=by unfold QXS;rw[if_neg h',if_neg h2]
  refine xcl (QRx (some ⟨b,0,none⟩) d l X k.1 k.2 hL) rdb ?_;rintro _ _ rfl;rw[e];exact QA5 (ca0 (QAD rfl))
end Go.Cx
namespace Go.Cx
open Go Go.Cf
set_option linter.unusedVariables false
set_option maxRecDepth 100000
section
variable {B:QBE}{As:List HP}
theorem QTz(p:Option Addr)(m:DM)(nm to:ByteArray):Ct Pr 193 [.pointer p,.string nm,.string to] .one [.I] [QAC p m] emp
  (fun t Bs=>t.1=(QCF m nm to).2∧Bs=[QAC p (QCF m nm to).1]):=by
 refine sp1 (QDx _ _ _) fun B _=>?_;unfold QDx mf;dsimp only;refine QZn 0 fun hi b s cs hp sf hsn=>?_;subst hp;have hinv:=QON hi nm to;unfold QCF at hinv⊢;refine xcl (QFl b s cs m nm hi.sorted sf hi.len) rdb ?_;rintro⟨r,c,_⟩ _ ⟨h1,h2,rfl⟩;simp only at h1 h2;subst h1 h2;refine QBM (ca2 ?_);refine xcl (QOY to) rdb ?_;rintro⟨c,_⟩ _ ⟨h1,rfl⟩;simp only at h1;subst h1;refine QAy (ca1 (xif (fun hn=>?_) (fun hn=>?_)))
 ·rw[if_pos hn];exact QBD b s cs hi (QAD ⟨rfl,rfl⟩)
 rw[if_neg (by simpa using hn)]at hinv⊢;refine QAQ (xgq (xif (fun hd=>?_) (fun hd=>xif (fun ht=>?_) (fun ht=>?_))))
 ·rw[QFh hd];exact QBD b s cs hi (QAD ⟨rfl,rfl⟩)
 ·rw[QFg hd (by simpa using ht)];exact QBD b s cs hi (QAD ⟨rfl,rfl⟩)
 have ht:QAh m.fs nm.toList=true:=by simpa using ht
 rw[QJL hd ht]at hinv⊢;obtain⟨c,f,hc,hf,hgd,e1,e2,e3,e4,hfb,_,_⟩:=QPy (p:=none) hi sf ht;rw[hgd]at hinv⊢;have hlt:=(List.getElem?_eq_some_iff.1 hc).1;have hltf:=(List.getElem?_eq_some_iff.1 hf).1;have hlen:=hi.len;have hcl:=sf.len;obtain⟨q1,q2⟩:=QCb m;refine QAQ ?_;refine xcl (QGb b s m hi.left.1 hi.left.2) rdb ?_;rintro⟨r,_⟩ _ ⟨hr,rfl⟩;simp only at hr;subst hr;refine QA5 (ca1 (xif (fun hsp=>?_) (fun hsp=>?_)))
 ·rw[QKn (by simpa using hsp)]at hinv⊢;exact QCE 0 0 0 b s cs (QAu m).1 hinv (fun _ h=>by rw[q1];exact h) (QAD ⟨rfl,rfl⟩)
 rw[QKy (by simpa using hsp)]at hinv⊢;simp only[q1]at hinv⊢;have hse:=QCj (i:=QAT m.fs nm.toList) hi.sorted
 generalize QAT m.fs nm.toList=i at *
 refine QAQ (xgq ?_);refine QAH (h1:=hlt) (h:=fun _ _=>?_);refine QAN hc (h:=?_);refine QAZ hc (h:=?_);refine QAZ hc (h:=QAL fun b1=>xsq (xsq (xsq (xsq (QAQ (xgq ?_))))));rw[QAF _ (by omega)];refine xcl (QLZ s cs i hlt (by omega)) rdb ?_;rintro⟨s',_⟩ _ rfl;refine QA5 (ca1 (QAQ (xsq ?_)));refine QdZ 3 [QCB c f,Each QCB (cs.eraseIdx i) (m.fs.eraseIdx i)] (fun g hg=>QCI hg hc hf) (QBM ?_);refine QBx 1 (fun g hg=>QbF hg) fun sf'=>?_
 have hlen':(m.fs.eraseIdx i).length≤64:=by rw[List.length_eraseIdx,if_pos hltf];omega
 have hcl':=sf'.len;refine xcl (QFl b s' (cs.eraseIdx i) { (QAu m).1 with fs:=m.fs.eraseIdx i } to hse sf' hlen') rdb ?_;rintro⟨r,cc,_⟩ _ ⟨h1,h2,rfl⟩;simp only at h1 h2;subst h1 h2;refine QBM (ca2 ?_);unfold QQx at hinv⊢;simp only at hinv⊢;refine QAJ (xif (fun hw=>?_) (fun hw=>?_))
 ·rw[if_pos hw]at hinv⊢;obtain⟨hg,_⟩:=QCO (d:=⟨to,[],0⟩) hw;generalize (m.fs.eraseIdx i).getD (QAT (m.fs.eraseIdx i) to.toList) ⟨to,[],0⟩=f1 at hg
  have hlt1:QAT (m.fs.eraseIdx i) to.toList<(cs.eraseIdx i).length:=by rw[hcl'];exact (List.getElem?_eq_some_iff.1 hg).1
  have hg1:=List.getElem?_eq_getElem hlt1;generalize (cs.eraseIdx i)[QAT (m.fs.eraseIdx i) to.toList]=c1 at hg1
  generalize QAT (m.fs.eraseIdx i) to.toList=j at *
  refine QAO (QAQ (xgq (xgq (xgq (xgq ?_)))));refine QAH (h1:=hlt1) (h:=fun _ _=>?_);refine QHd (to,c1.2.1,c1.2.2) hg1 (hv:=rfl) (h:=?_);have g2:((cs.eraseIdx i).set j (to,c1.2.1,c1.2.2))[j]? = some (to,c1.2.1,c1.2.2):=List.getElem?_set_self hlt1;refine QCx (to,c.2.1,c1.2.2) g2 (hj:=by decide) (hv:=rfl) (h:=?_);rw[List.set_set];have g3:((cs.eraseIdx i).set j (to,c.2.1,c1.2.2))[j]? = some (to,c.2.1,c1.2.2):=List.getElem?_set_self hlt1;refine QCx (to,c.2.1,c.2.2) g3 (hj:=by decide) (hv:=rfl) (h:=?_);rw[List.set_set]
  -- Blk b, Ar FILE, FileR, Each, Blk b1
  refine QRS 2 2 (Q:=Each QCB ((cs.eraseIdx i).set j (to,c.2.1,c.2.2)) ((m.fs.eraseIdx i).set j { f with nm:=to })) (fun g hgg=>?_) ?_
  ·refine QDP hlt1 (List.getElem?_eq_some_iff.1 hg).1 ?_;refine QA2 (P:=QCB c f) (fun q hq=>(⟨rfl,hq.2.1,hq.2.2⟩:QCB (to,c.2.1,c.2.2) { f with nm:=to } q)) ?_;refine QBC (l:=[Each QCB (cs.eraseIdx i) (m.fs.eraseIdx i)]) (fun q hq=>?_) hgg;obtain⟨a,_,pa,_,_,sa,_⟩:=hq;obtain⟨a1,b1,_,pb1,_,_,sb1⟩:=QCI pa hg1 hg;exact QCc _ pb1 (sb1.trans sa)
  exact QCE 1 1 0 b s' ((cs.eraseIdx i).set j (to,c.2.1,c.2.2)) _ hinv (fun _ h=>h) (QB5 1 (QAD ⟨rfl,rfl⟩))
 ·rw[if_neg (by rw[hw];simp)]at hinv⊢;have hle:=QFn (m.fs.eraseIdx i) to.toList
  generalize QAT (m.fs.eraseIdx i) to.toList=j at *
  refine QAO (QAQ (xgq (xgq (xgq (xgq (QeT fun b2=>?_))))));refine xcl (QMP s' (cs.eraseIdx i) j b2 (to,c.2.1,c.2.2) (by omega) (by omega)) rdb ?_;rintro⟨s2,_⟩ _ rfl;refine QA5 (ca1 (QAQ (xsq ?_)))
  -- Ar FILE, Blk b, FileR, Each, Blk b1
  refine QRS 2 2 (Q:=Each QCB ((cs.eraseIdx i).take j++(to,c.2.1,c.2.2)::(cs.eraseIdx i).drop j) (QMx (m.fs.eraseIdx i) j { f with nm:=to })) (fun g hgg=>?_) ?_
  ·exact QUh j (QA2 (P:=QCB c f) (fun q hq=>(⟨rfl,hq.2.1,hq.2.2⟩:QCB (to,c.2.1,c.2.2) { f with nm:=to } q)) hgg)
  exact QCE 2 1 0 b s2 ((cs.eraseIdx i).take j++(to,c.2.1,c.2.2)::(cs.eraseIdx i).drop j) _ hinv (fun _ h=>h) (QB5 1 (QAD ⟨rfl,rfl⟩))
end
variable {B:QBE}{As F:List HP}
end Go.Cx
namespace Go.Cx
open Go Go.Cf
set_option linter.unusedVariables false
set_option maxRecDepth 100000
variable {B:QBE}{As F:List HP}
end Go.Cx
namespace Go.Cx
open Go Go.Cf
set_option linter.unusedVariables false
set_option maxRecDepth 100000
variable {B:QBE}{As F:List HP}{α:Type}
abbrev P3:=Int×Int×Int
def PaE:Enc P3:=⟨fun k=>[.I k.1,.I k.2.1,.I k.2.2],3,fun _=>rfl,fun x v h=>by simp at h;rcases h with rfl|rfl|rfl<;>rfl,by decide,(0,0,0)⟩
def QZs(p:P3):Bool:=decide (p.1<1)||decide (p.1>65535)||decide (p.2.1<0)||decide (p.2.1≥10000)||decide (p.2.2<1)||decide (p.2.2>10000 - p.2.1)
def QUD(room:Int):List P3→Int
 | []=>if room<0 then 2 else 0
 | p::ps=>if QZs p=true then 3 else QUD (room - (2+2*p.2.2)) ps
theorem QZd:∀(ps:List P3) (room:Int),QUD room ps=0→∀p∈ps,QZs p=false
 | [],_,_,p,hp=>by simp at hp
 | q::ps,room,h,p,hp=>by
  rw[QUD]at h
  cases hq:QZs q with
  | true=>rw[if_pos hq]at h;cases h
  | false=>
   rw[if_neg (by rw[hq];simp)]at h;rcases List.mem_cons.1 hp with rfl|hp
   ·exact hq
   ·exact QZd ps _ h p hp
def QcI(lg:LM)(X:XM)(span:Int):List P3→Option (List (List Int))
 | []=>some []
 | p::ps=>if (Qdc lg X span p.1).2≠0∨p.2.1+p.2.2>((Qdc lg X span p.1).1.length:Int) then none
  else (QcI lg X span ps).map (((Qdc lg X span p.1).1.take (p.2.1+p.2.2).toNat).drop p.2.1.toNat :: ·)
end Go.Cx
