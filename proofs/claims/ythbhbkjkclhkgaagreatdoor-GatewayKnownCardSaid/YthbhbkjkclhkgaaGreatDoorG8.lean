import Derived.Test.YthbhbkjkclhkgaaGreatDoorG5
namespace Go.Cx
open Go Go.Cf
set_option linter.unusedVariables false
set_option maxRecDepth 100000
variable {B:QBE}{As F:List HP}
def QTl(M:GM)(f:GM→GM):GM:=if M.ok=true then f M else M
def QCn(old now:Int):Int:=if (if 1099511627776<now then 1099511627776 else now)>old then (if 1099511627776<now then 1099511627776 else now) else old
def tick0(M:GM)(now:Int):GM:={ M with clock:=QCn M.clock now,ma:=(QDf M.ma (QCn M.clock now)).2.2,os:=if 0<(QDf M.ma (QCn M.clock now)).1.length then M.os++[(1,(QDf M.ma (QCn M.clock now)).1)] else M.os }
def QDa(M:GM)(now:Int):GM:=if (QDf M.ma (QCn M.clock now)).2.1.is=true then QHa (tick0 M now) (QDf M.ma (QCn M.clock now)).2.1 else tick0 M now
def QDn(M:GM):GM:=if M.ma.tries>0 then M else QDb M
def QM3(M:GM):GM:={ M with k:=(QJd M.k).1,ok:=(QJd M.k).2 }
def QYD(k:Kn):Kn×Int:=(⟨(saveM k.dev k.log.lo k.X).1,k.log,(saveM k.dev k.log.lo k.X).2.1⟩,(saveM k.dev k.log.lo k.X).2.2)
def QKb(M:GM):GM:=
 if IntKind.i64.wrap (M.k.log.next - M.saved)≥64 then
  (if (QYD M.k).2=10 then { M with k:=(QYD M.k).1,ok:=false } else if (QYD M.k).2=0 then { M with k:=(QYD M.k).1,saved:=M.k.log.next } else { M with k:=(QYD M.k).1 })
 else M
def QQa(k:Kn)(to keep:Int):Kn×Int:=(⟨(Qa6 k.dev k.log to keep).1,(Qa6 k.dev k.log to keep).2.1,k.X⟩,(Qa6 k.dev k.log to keep).2.2)
def QVh(M:GM):GM:={ M with m:=(QCV M.epoch M.clock M.k.log M.m).1,os:=M.os++(QCV M.epoch M.clock M.k.log M.m).2 }
def QW5(M:GM):GM:=if (QQa M.k M.acked M.keep).2=10 then { M with k:=(QQa M.k M.acked M.keep).1,ok:=false } else QVh { M with k:=(QQa M.k M.acked M.keep).1 }
def QJh(M:GM)(now:Int):GM:=QTl (QTl (QTl (QTl (QDa M now) QDn) QM3) QKb) QW5
theorem QVY{old now:Int}(h:0≤old∧old≤1099511627776):0≤QCn old now∧QCn old now≤1099511627776:=by
 unfold QCn
 (repeat' split)<;>omega
theorem QJT(d l x:Option Addr)(k:Kn):Ct Pr 39 [.pointer l] .one [.I] [QA7 d l x k] emp (fun t Bs=>t.1=k.log.next∧Bs=[QA7 d l x k]):=by
 refine QGr (φ:=QAb Pr 39 [.pointer l] .one [.I]) (fun h=>h) fun B hr=>?_;refine QGn 0 fun hk=>?_;refine xd1 (QFE l d k.log) ?_;exact QCs d l x k hk (QAK [QA7 d l x k] (QAD ⟨rfl,rfl⟩))
theorem QbD{m:MaM}{now:Int}(h:(QDf m now).2.1.is=true):0<m.tries∧(QDf m now).2.2.tries=0:=by
 unfold QDf at h⊢;split at h
 ·cases h
 rename_i q
 have q:=Classical.not_not.1 q;rw[if_neg (fun z=>z q)];split at h
 ·rename_i r
  rw[if_pos r];exact⟨q.1,rfl⟩
 ·cases h
theorem QaN{m:MaM}{now:Int}:(QDf m now).2.1.r=QP9∧((QDf m now).1=[]∨(QDf m now).1=m.fr):=by
 unfold QDf;split
 ·exact⟨rfl,.inl rfl⟩
 split
 ·exact⟨rfl,.inl rfl⟩
 ·exact⟨rfl,.inr rfl⟩
theorem QWm{m:MaM}{now:Int}(h:0<(QDf m now).2.2.tries)(h0:0≤m.tries):0<m.tries:=by
 unfold QDf at h;split at h
 ·exact h
 split at h
 ·cases h
 ·rename_i q _;exact (Classical.not_not.1 q).1
theorem MOk.tick0{M:GM}(h:MOk M)(hm:Qcs M.ma)(now:Int):MOk (tick0 M now):=
 ⟨QVY h.clock,h.keep,h.slots,h.polls,h.tags,h.held,h.al,h.queue,h.poll,fun q=>h.busy (QWm q hm.tries.1)⟩
theorem MOk.step{M:GM}(h:MOk M)(k:Kn)(m:SeM)(saved:Int)(os:List QCS)(ok:Bool):MOk { M with k:=k,m:=m,saved:=saved,os:=os,ok:=ok }:=
 ⟨h.clock,h.keep,h.slots,h.polls,h.tags,h.held,h.al,h.queue,h.poll,h.busy⟩
theorem QJO(id code:Int):(QDg id code).length≤1:=QOv _
theorem QU4(M:GM)(o:QXR):(QHa M o).os.length≤M.os.length+1:=by
 unfold QHa;split
 ·unfold QYV QRw
  (repeat' split)<;>exact Nat.le_succ _
 ·unfold QZa;split
  ·exact Nat.le_succ _
  split
  ·show (M.os++QDg _ _).length≤_;rw[List.length_append];exact Nat.add_le_add_left (QJO _ _) _
  ·unfold QfP
   (try simp only)
   split
   ·rw[List.length_append];exact Nat.add_le_add_left (QJO _ _) _
   ·exact Nat.le_succ _
theorem QRe(M:GM):(QDb M).os.length≤M.os.length+1:=by
 unfold QDb;split
 ·unfold QOJ;split
  ·exact Nat.le_succ _
  split
  ·show (M.os++QDg _ _).length≤_;rw[List.length_append];exact Nat.add_le_add_left (QJO _ _) _
  ·unfold QR8 QY1
   (repeat' split)<;>first|exact Nat.le_succ _|(show (M.os++[_]).length≤_;rw[List.length_append];exact Nat.le_refl _)
 ·unfold QLl
  (repeat' split)<;>first|exact Nat.le_succ _|(show (M.os++[_]).length≤_;rw[List.length_append];exact Nat.le_refl _)
theorem QVK(M:GM)(now:Int):(QDa M now).os.length≤M.os.length+2:=by
 have h0:(tick0 M now).os.length≤M.os.length+1:=by
  unfold tick0
  (try simp only)
  split
  ·rw[List.length_append];exact Nat.le_refl _
  ·exact Nat.le_succ _
 unfold QDa;split
 ·exact Nat.le_trans (QU4 _ _) (by omega)
 ·omega
theorem QJF{M:GM}{f:GM→GM}(h:M.ok=false):QTl M f=M:=by unfold QTl;rw[if_neg (by rw[h];decide)]
theorem QPJ{M:GM}{f:GM→GM}(h:M.ok=true):QTl M f=f M:=by unfold QTl;rw[if_pos h]
theorem QFO{A1 A2 A3 A4 A5 A6 A7 A8 A9 A10 A11 A12:HP}{F:List HP}{φ:WP}(h:Ent B (A1::A2::A3::A4::A5::A6::A7::A8::A9::A10::A11::A12::F) φ):Ent B ([A1,A2,A3,A4,A5,A6,A7,A8,A9,A10,A11,A12]++F) φ:=h
theorem ca9{s1 s2 s3 s4 s5 s6 s7 s8 s9:Sh}{K:s1.ty→s2.ty→s3.ty→s4.ty→s5.ty→s6.ty→s7.ty→s8.ty→s9.ty→WP}{a b c d e f g i j}{v:Unit}(h:Ent B As (K a b c d e f g i j)):Ent B As (Cur.app [s1,s2,s3,s4,s5,s6,s7,s8,s9] K (a,b,c,d,e,f,g,i,j,v)):=h
def QZW(M:GM)(id:Int):Bool:=(match M.cmd with|some c=>c.id == id|none=>false)||M.queue.any (fun c=>c.id == id)
theorem QUA:∀{rs:List Qds}{qs:List QKZ}{f:QBe},Each QFk rs qs f→rs.map (·.1)=qs
 | [],[],_,_=>rfl
 | [],_::_,_,h=>h.elim
 | _::_,[],_,h=>h.elim
 | r::rs,q::qs,f,h=>by
  obtain⟨a,b,h1,⟨c,d,h2,_⟩,_⟩:=h;rw[List.map_cons,h1.1,QUA h2]
theorem QWY(g:Nat)(a:GwA)(M:GM)(hM:MOk M)(id:Int):Ct Pr 344 [.pointer (some ⟨g,0,none⟩),.I id] .one [.bool] (GwL g a M) emp (fun t Bs=>t.1=QZW M id∧Bs=GwL g a M):=by
 refine sp1 (QDY _ _) fun B _=>?_;unfold QDY mf;dsimp only;refine xgf (h:=?_);refine QAS (fun(x:Bool) As'=>x=(match M.cmd with|some c=>c.id == id|none=>false)∧As'=GwL g a M) (fun K hK=>?_) ?_
 ·cases hcmd:M.cmd with
  | none=>
   rw[hcmd]at hK;refine QBx 11 (P1:=QXi a.cmd M.cmd) (fun f hf=>(by rw[hcmd]at hf;exact hf:a.cmd=none)) fun hcn=>?_;rw[show (cOf a M).cmd=none from hcn];exact QBF rfl (hK _ _ ⟨rfl,rfl⟩)
  | some c=>
   rw[hcmd]at hK;refine QFI 11 (P1:=QXi a.cmd M.cmd) (fun Bs=>∃b0 so ss sp,a.cmd=some ⟨b0,0,none⟩∧Bs=[Blk b0 (cmC c so ss sp),Ar BL so c.a.on,Ar W16 ss c.a.set,Ar PaE sp c.a.parts]) (fun f hf=>?_) ?_
   ·rw[hcmd]at hf;obtain⟨b0,so,ss,sp,h1,h2⟩:=hf;exact⟨_,⟨b0,so,ss,sp,h1,rfl⟩,h2⟩
   rintro _ ⟨b0,so,ss,sp,hac,rfl⟩;refine Qc4 ?_;rw[show (cOf a M).cmd=some ⟨b0,0,none⟩ from hac];refine QBz rfl (xgf (h:=?_));rw[show (cOf a M).cmd=some ⟨b0,0,none⟩ from hac];refine QAQ (xgq ?_);refine QBQ [Blk b0 (cmC c so ss sp),Ar BL so c.a.on,Ar W16 ss c.a.set,Ar PaE sp c.a.parts] (QXi a.cmd M.cmd) (fun f hf=>by rw[hcmd];exact⟨b0,so,ss,sp,hac,hf⟩) ?_;exact QAK (GwL g a M) (hK _ _ ⟨rfl,rfl⟩)
 rintro x _ ⟨rfl,rfl⟩;unfold QZW;generalize (match M.cmd with|some c=>c.id == id|none=>false)=x;refine xif (fun h=>QAD ⟨by rw[h];rfl,rfl⟩) (fun h=>?_);rw[h,Bool.false_or];refine xgf (h:=?_);refine QFI 10 (P1:=QQB a.queue M.queue) (fun Bs=>∃rs:List Qds,rs.map (·.1)=M.queue∧Bs=[Ar CE a.queue rs,Each QFk rs M.queue]) (fun f hf=>?_) ?_
 ·obtain⟨rs,hl,hs⟩:=hf;have hs2:=hs;obtain⟨p,q,_,⟨u,v,h2,_⟩,_⟩:=hs2;exact⟨_,⟨rs,QUA h2,rfl⟩,hs⟩
 rintro _ ⟨rs,hrs,rfl⟩;refine QBM ?_;refine QCm (E:=CE) (xs:=rs) a.queue fun hn hc=>?_
 have hlen:rs.length=M.queue.length:=by rw[←hrs,List.length_map]
 have hback:∀{As R:List HP}{t:Bool},[Split [Ar CE a.queue rs,Each QFk rs M.queue] As R]→(∀As',As'=QQB a.queue M.queue::R→Ent B As' (Ret B (ss:=[.bool]) (fun t Bs=>t.1=M.queue.any (fun c=>c.id == id)∧Bs=GwL g a M) (t,())))→Ent B As (Ret B (ss:=[.bool]) (fun t Bs=>t.1=M.queue.any (fun c=>c.id == id)∧Bs=GwL g a M) (t,())):=fun h=>
  QBQ [Ar CE a.queue rs,Each QFk rs M.queue] (QQB a.queue M.queue) (fun f hf=>⟨rs,hlen,hf⟩) (h _ rfl)
 refine QBP (fun n (x:Int) As'=>∃i:Nat,x=(i:Int)∧n=rs.length - i∧i≤rs.length∧M.queue.any (fun c=>c.id == id)=(M.queue.drop i).any (fun c=>c.id == id)∧As'=Ar CE a.queue rs::Each QFk rs M.queue::[GwB g (cOf a M) M.os,QA7 a.dev a.log a.idx M.k,Od.JObj a.dev a.jr M.J,QBA a.up M.m,QA3 a.line M.ma,Ar Pn.TG a.tags M.ts,Pn.OPolls a.polls M.polls,Ar SLT a.slots M.slots,Ar HLT a.held M.held,Ar ALT a.alarms M.al,QXi a.cmd M.cmd]) rs.length ⟨0,rfl,rfl,by omega,rfl,rfl⟩ ?_;rintro n x As' K ⟨i,rfl,rfl,hi,hany,rfl⟩ hK;have hqb:=hM.queue.1;refine QAA (fun hlt=>?_) (fun hlt=>?_)
 ·have hil:i<rs.length:=by have hlt:(i:Int)<(a.queue.n:Int):=hlt;omega
  obtain⟨⟨c,so,ss,sp⟩,hri⟩:∃r,rs[i]? = some r:=⟨_,List.getElem?_eq_getElem hil⟩
  have hqi:M.queue[i]? = some c:=by rw[←hrs,List.getElem?_map,hri];rfl
  have hdrop:M.queue.drop i=c::M.queue.drop (i+1):=by rw[List.drop_eq_getElem_cons (by omega)];congr 1;exact (List.getElem?_eq_some_iff.1 hqi).2
  rw[hdrop,List.any_cons]at hany;refine QAH (E:=CE) (xs:=rs) (s:=a.queue) (k:=i) (h1:=hil) (h:=fun _ _=>?_);refine QAN (E:=CE) (xs:=rs) hri (h:=?_);iterate 7 (refine QAZ (E:=CE) (xs:=rs) hri (h:=?_))
  (try dsimp only)
  refine QAL fun b=>?_;iterate 8 (refine xsq ?_)
  refine xgq (xif (fun h=>?_) (fun h=>?_))
  ·rw[h,Bool.true_or]at hany;refine hback fun As' e=>?_;subst e;exact QAK (GwL g a M) (QAD ⟨hany.symm,rfl⟩)
  ·rw[h,Bool.false_or]at hany;rw[QAF i (by omega)];exact QB5 0 (hK (rs.length - (i+1)) _ _ (by omega) ⟨i+1,rfl,rfl,by omega,hany,rfl⟩)
 ·rw[List.drop_of_length_le (by have hlt:¬(i:Int)<(a.queue.n:Int):=hlt;omega)]at hany;refine hback fun As' e=>?_;subst e;exact QAK (GwL g a M) (QAD ⟨hany.symm,rfl⟩)
def QG6(M:GM)(p:PkV):GM:=
 if (QDj p).2≠0 then { M with os:=M.os++QDg p.id 4 }
 else if (Od.stateJ M.J.L p.id).1=2 then { M with os:=M.os++QDg p.id (Od.stateJ M.J.L p.id).2 }
 else if QZW M p.id=true then M
 else if (Od.stateJ M.J.L p.id).1=1 then { M with os:=M.os++QDg p.id 2 }
 else if M.queue.length≥8 then { M with os:=M.os++QDg p.id 3 }
 else { M with queue:=M.queue++[(QDj p).1] }
theorem QYX{p:PkV}(h:(QDj p).2=0):QaO (QDj p).1:=by
 unfold QDj at h⊢
 obtain⟨n1,h1⟩:pkE p p.body.length=0∧True:=by
  by_cases q:pkE p p.body.length=0
  ·exact⟨q,trivial⟩
  ·rw[if_pos q]at h;exact absurd h q
 rw[if_neg (by rw[n1];decide)]at h⊢;by_cases q2:p.kind≠3
 ·rw[if_pos q2]at h;cases h
 rw[if_neg q2]at h⊢;by_cases q3:(p.body.getD 0 0).toNat<1∨(p.body.getD 0 0).toNat>247
 ·rw[if_pos q3]at h;cases h
 rw[if_neg q3]at h⊢;by_cases q4:(QAX (p.body.drop 1)).2≠0
 ·rw[if_pos q4]at h;exact absurd h q4
 rw[if_neg q4]at h⊢;by_cases q5:QOz (QAX (p.body.drop 1)).1.code=false
 ·rw[if_pos q5]at h;cases h
 rw[if_neg q5];refine⟨QHW _,fun e=>q5 ?_⟩;have e:(QAX (p.body.drop 1)).1.code=20:=e;rw[e];rfl
theorem MOk.queued{M:GM}(h:MOk M)(c:QKZ)(hc:QaO c)(hl:¬M.queue.length≥8):MOk { M with queue:=M.queue++[c] }:=
 ⟨h.clock,h.keep,h.slots,h.polls,h.tags,h.held,h.al,⟨by show (M.queue++[c]).length≤8;rw[List.length_append,List.length_singleton];omega,fun x hx=>by
  rcases List.mem_append.1 hx with q|q
  ·exact h.queue.2 x q
  ·rw[List.mem_singleton.1 q];exact hc⟩,h.poll,h.busy⟩
theorem QJa(g:Nat)(a:GwA)(M:GM)(hM:MOk M)(hos:M.os.length≤900000)(p:PkV)(s:Sl)(hs:s.n≤s.c):Ct Pr 243 [.pointer (some ⟨g,0,none⟩),Qdv p s] (.tup []) [] (GwL g a M) (RAr U8 s p.body) (fun _ Bs=>MOk (QG6 M p)∧∃a',a'.dev=a.dev∧Bs=GwL g a' (QG6 M p)):=by
 refine sp0 (QDZ _ _ _ _ _ _ _) fun B hr=>?_;haveI:Fro B s U8 p.body:=⟨hr⟩;obtain⟨N,hN⟩:∃N,QG6 M p=N:=⟨_,rfl⟩;rw[hN];unfold QG6 at hN;unfold QDZ mf;dsimp only;refine QAL fun b=>?_;iterate 5 (refine xgq ?_)
 refine QAE (s:=.slice) (x:=s) (hv:=rfl) (h:=?_);refine xcl (QTF p s hs) rdb ?_;have hck:=@QYX p
 generalize QDj p=C at *
 obtain⟨c,e⟩:=C;simp only at hck hN;rintro⟨v0,v1,v2,v3,v4,so,ss,sp,e',_⟩ _ ⟨rfl,rfl,rfl,rfl,rfl,h6,rfl⟩;simp only at h6;subst h6;refine QQA (ca9 (QAL fun b1=>?_));iterate 8 (refine xsq ?_)
 refine QAO (xgf (h:=xgq ?_));refine xd2 (Od.State_spec a.dev a.jr M.J p.id) ?_
 have fin:∀{M':GM}{a':GwA}{R:List HP},M'=N→MOk M'→a'.dev=a.dev→Ent B (GwL g a' M'++R) (Ret B (ss:=[]) (fun _ Bs=>MOk N∧∃a',a'.dev=a.dev∧Bs=GwL g a' N) ()):=by
  rintro M' a' R rfl h hd;exact QAa (l:=GwL g a' M') (QAD ⟨h,a',hd,rfl⟩)
 refine QAJ (xif (fun h=>?_) (fun h=>?_))
 ·rw[if_pos (bne_iff_ne.1 h)]at hN;refine QAE (h:=xd0 (QDU g (cOf a M) M.os (by omega) p.id 4) ?_);exact QAU (GwL g a { M with os:=M.os++QDg p.id 4 }) (fin hN (hM.core _ _ _ _ _ _) rfl)
 have he0:e'=0:=by simpa using h
 rw[if_neg (by rw[he0];decide)]at hN;refine QAJ (xif (fun h=>?_) (fun h=>?_))
 ·rw[if_pos (eq_of_beq h)]at hN;refine QAE (h:=xd0 (QDU g (cOf a M) M.os (by omega) p.id (Od.stateJ M.J.L p.id).2) ?_);exact QAU (GwL g a { M with os:=M.os++QDg p.id (Od.stateJ M.J.L p.id).2 }) (fin hN (hM.core _ _ _ _ _ _) rfl)
 rw[if_neg (ne_of_beq_false h)]at hN;refine xgq ?_;refine xcl (QWY g a M hM p.id) rdb ?_;rintro⟨w,_⟩ _ ⟨hw,rfl⟩;simp only at hw;subst hw;refine QFO (ca1 (QAJ (xif (fun h=>?_) (fun h=>?_))))
 ·rw[if_pos h]at hN;exact QAU (GwL g a M) (fin hN hM rfl)
 rw[if_neg (by rw[h];decide)]at hN;refine QAJ (xif (fun h=>?_) (fun h=>?_))
 ·rw[if_pos (eq_of_beq h)]at hN;refine QAE (h:=xd0 (QDU g (cOf a M) M.os (by omega) p.id 2) ?_);exact QAU (GwL g a { M with os:=M.os++QDg p.id 2 }) (fin hN (hM.core _ _ _ _ _ _) rfl)
 rw[if_neg (ne_of_beq_false h)]at hN
 have hqn:∀(f:QBe),QQB a.queue M.queue f→M.queue.length=a.queue.n:=fun f hf=>by
  obtain⟨rs,hl,x,y,⟨zs,hx⟩,_⟩:=hf;rw[←hl];exact hx.read.1
 refine QBx 10 (P1:=QQB a.queue M.queue) hqn fun hqn=>?_;refine xgf (h:=QAJ (QAA (fun h=>?_) (fun h=>?_)))
 ·have h:(a.queue.n:Int)≥8:=h;rw[if_pos (by omega)]at hN;refine QAE (h:=xd0 (QDU g (cOf a M) M.os (by omega) p.id 3) ?_);exact QAU (GwL g a { M with os:=M.os++QDg p.id 3 }) (fin hN (hM.core _ _ _ _ _ _) rfl)
 ·have h:¬(a.queue.n:Int)≥8:=h
  have hl8:¬M.queue.length≥8:=by omega
  rw[if_neg hl8]at hN;refine QAO (xgf (h:=?_));iterate 5 (refine xgq ?_)
  refine QAE (s:=.slice) (x:=so) (hv:=rfl) (h:=QAE (s:=.slice) (x:=ss) (hv:=rfl) (h:=QAE (s:=.slice) (x:=sp) (hv:=rfl) (h:=QAL fun b2=>?_)));refine QFI 11 (P1:=QQB a.queue M.queue) (fun Bs=>∃rs:List Qds,rs.length=M.queue.length∧Bs=[Ar CE a.queue rs,Each QFk rs M.queue]) (fun f hf=>?_) ?_
  ·obtain⟨rs,hl,hs⟩:=hf;exact⟨_,⟨rs,hl,rfl⟩,hs⟩
  rintro _ ⟨rs,hrl,rfl⟩;refine QBM ?_;refine QAU [Blk b2 (cmC c so ss sp),Ar CE a.queue rs] ?_;refine QEc (E:=CE) (c,so,ss,sp) (hb:=by omega) (h:=fun s9=>?_);refine QBQ [Ar BL so c.a.on,Ar W16 ss c.a.set,Ar PaE sp c.a.parts] (QFk (c,so,ss,sp) c) (fun f hf=>⟨rfl,hf⟩) ?_;refine QBQ [Each QFk rs M.queue,QFk (c,so,ss,sp) c] (Each QFk (rs++[(c,so,ss,sp)]) (M.queue++[c])) (fun f hf=>QEL hf) ?_;refine QBQ [Ar CE s9 (rs++[(c,so,ss,sp)]),Each QFk (rs++[(c,so,ss,sp)]) (M.queue++[c])] (QQB s9 (M.queue++[c])) (fun f hf=>⟨_,by rw[List.length_append,List.length_append,hrl];rfl,hf⟩) ?_;refine xgs (cOf { a with queue:=s9 } M) (h:=?_);exact QAU (GwL g { a with queue:=s9 } { M with queue:=M.queue++[c] }) (fin hN (hM.queued c (hck he0) hl8) rfl)
def Qfa(M:GM)(base:Int):GM:=
 if (Csr.saveM M.k.dev ⟨base,M.epoch,M.boots⟩).2=10 then { M with k:=⟨(Csr.saveM M.k.dev ⟨base,M.epoch,M.boots⟩).1,M.k.log,M.k.X⟩,ok:=false }
 else QVh { M with k:=⟨(Csr.saveM M.k.dev ⟨base,M.epoch,M.boots⟩).1,M.k.log,M.k.X⟩,acked:=if (Csr.saveM M.k.dev ⟨base,M.epoch,M.boots⟩).2=0 then base else M.acked }
def QJm(M:GM)(xs:List UInt8):GM:=
 if (QAi xs).2≠0 then M
 else if (QAi xs).1.kind=2 then
  (if (QZ2 M.m M.clock (QAi xs).1.epoch (QAi xs).1.seq).2=true then Qfa { M with m:=(QZ2 M.m M.clock (QAi xs).1.epoch (QAi xs).1.seq).1 } (QZ2 M.m M.clock (QAi xs).1.epoch (QAi xs).1.seq).1.base
   else { M with m:=(QZ2 M.m M.clock (QAi xs).1.epoch (QAi xs).1.seq).1 })
 else if (QAi xs).1.kind=3 then QG6 M (QAi xs).1
 else M
theorem QZg(M:GM)(p:PkV):(QG6 M p).ok=M.ok:=by
 unfold QG6
 (repeat' split)<;>rfl
theorem MOk.acks{M:GM}(h:MOk M)(k:Kn)(m:SeM)(acked:Int)(os:List QCS)(ok:Bool):MOk { M with k:=k,m:=m,acked:=acked,os:=os,ok:=ok }:=
 ⟨h.clock,h.keep,h.slots,h.polls,h.tags,h.held,h.al,h.queue,h.poll,h.busy⟩
theorem QYT(g:Nat)(a:GwA)(M:GM)(hM:MOk M)(hok:M.ok=true)(hos:M.os.length≤800000)(b:Sl)(xs:List UInt8)(hx:xs.length≤1000000)(hcap:b.n≤b.c) :
  CtP QCl Pr 152 [.pointer (some ⟨g,0,none⟩),b.v] (.tup []) [] (GwL g a M) (RAr U8 b xs)
  (fun _ Bs=>(QJm M xs).ok=true∧MOk (QJm M xs)∧∃a',a'.dev=a.dev∧Bs=GwL g a' (QJm M xs))
  (fun Bs=>(QJm M xs).ok=false∧MOk (QJm M xs)∧∃a',a'.dev=a.dev∧Bs=GwL g a' (QJm M xs)):=by
 refine QdA (QDq _ _) fun B hr=>?_;haveI:Fro B b U8 xs:=⟨hr⟩;obtain⟨N,hN⟩:∃N,QJm M xs=N:=⟨_,rfl⟩;rw[hN];unfold QJm at hN;unfold QDq mfP;dsimp only;refine xcl (QFz xs hx b hcap) rdb ?_
 generalize QAi xs=C at *
 obtain⟨p,e⟩:=C;simp only at hN;rintro⟨v0,v1,v2,v3,v4,s,v6,_⟩ _ ⟨rfl,rfl,rfl,rfl,rfl,h6,rfl⟩;simp only at h6;subst h6;refine QA5 (ca7 (QAL fun b1=>?_));iterate 6 (refine xsq ?_)
 refine xif (fun h=>?_) (fun h=>?_)
 ·rw[if_pos (bne_iff_ne.1 h)]at hN;subst hN;exact QAK (GwL g a M) (QAD ⟨hok,hM,a,rfl,rfl⟩)
 rw[if_neg (by simpa using h)]at hN;refine xgq (QAJ (xif (fun h2=>?_) (fun h2=>QAJ (xif (fun h3=>?_) (fun h3=>?_)))))
 ·rw[if_pos (eq_of_beq h2)]at hN;refine QAO (xgf (h:=xgf (h:=xgq (xgq ?_))));refine xd1 (QSr a.up M.m M.clock p.epoch p.seq) ?_
  generalize QZ2 M.m M.clock p.epoch p.seq=A at *
  obtain⟨m',ac⟩:=A;simp only at hN⊢;refine QAJ (xif (fun h=>?_) (fun h=>?_))
  ·rw[if_pos h]at hN;unfold Qfa at hN;simp only at hN
   have hc12:∀(K:Int→Int→Int→WP) (As:List HP) (F:List HP) [GwF g As (cOf a M) M.os F],Ent B As (K M.acked M.epoch M.boots)→Ent B As (QCe (some ⟨g,0,none⟩) fun a2=>QAq (.I) (a2.add 11) fun(n4:Int)=>QAq (.I) (a2.add 12) fun(n5:Int)=>QAq (.I) (a2.add 13) fun(n6:Int)=>K n4 n5 n6):=by
    intro K As F f hK;refine Ent.perm f.perm (xgw 0 fun out=>QAQ ?_);rw[QAz,QAz,QAz];exact xgq (xgq (xgq (QQC g (cOf a M) M.os out (Ent.perm f.perm.symm hK))))
   refine hc12 _ _ _ (QAL fun b2=>?_);iterate 3 (refine xsq ?_)
   refine xgf (h:=xd1 (QQF a.up m') (xsq ?_));refine QAO (xgf (h:=xgq (xgq (xgq ?_))));refine QGn 5 fun hk=>?_;have hk2:=hk.saveC ⟨m'.base,M.epoch,M.boots⟩;refine xcl (Csr.Save_spec a.dev M.k.dev ⟨m'.base,M.epoch,M.boots⟩) rdb ?_
   generalize Csr.saveM M.k.dev ⟨m'.base,M.epoch,M.boots⟩=S at *
   obtain⟨d',e0⟩:=S;rintro⟨e',_⟩ _ ⟨hr1,rfl⟩;simp only at hr1 hN hk2;subst hr1;refine QA5 (ca1 (QCs a.dev a.log a.idx ⟨d',M.k.log,M.k.X⟩ hk2 (QQ8 (fun he=>?_) (fun he=>?_))))
   ·rw[if_neg he]at hN;refine QBu (fun As'=>As'=GwL g a { M with m:=m',k:=⟨d',M.k.log,M.k.X⟩,acked:=if e'=0 then m'.base else M.acked }) (fun K hK=>?_) ?_
    ·refine xif (fun h0=>?_) (fun h0=>?_)
     ·rw[if_pos (eq_of_beq h0)]at hK;refine xgq (xgq (xgq ?_))
      have hs12:∀(K:WP) (As:List HP) (F:List HP) [GwF g As (cOf a M) M.os F],Ent B (GwB g (cOf a { M with acked:=m'.base }) M.os::F) K→Ent B As (QCe (some ⟨g,0,none⟩) fun a5=>QBG (a5.add 11) (.I m'.base)<|QBG (a5.add 12) (.I M.epoch)<|QBG (a5.add 13) (.I M.boots)<|K):=by
       intro K As F f hK;refine Ent.perm f.perm (xgw 0 fun out=>QAQ ?_);rw[QAz,QAz,QAz];refine xsq (xsq (xsq ?_));exact QQC g (cOf a { M with acked:=m'.base }) M.os out hK
      refine hs12 _ _ _ ?_;exact QAK (GwL g a { M with m:=m',k:=⟨d',M.k.log,M.k.X⟩,acked:=m'.base }) (hK _ rfl)
     ·rw[if_neg (ne_of_beq_false h0)]at hK;exact QAK (GwL g a { M with m:=m',k:=⟨d',M.k.log,M.k.X⟩,acked:=M.acked }) (hK _ rfl)
    rintro _ rfl
    generalize (if e'=0 then m'.base else M.acked)=ak at *
    unfold QVh at hN;refine xcl (QH7 g (cOf a { M with acked:=ak }) M.os (by omega) ⟨d',M.k.log,M.k.X⟩ m') rdb ?_;rintro _ _ rfl;subst hN;refine QQA (ca0 ?_);exact QAK (GwL g a { M with k:=⟨d',M.k.log,M.k.X⟩,acked:=ak,m:=(QCV M.epoch M.clock M.k.log m').1,os:=M.os++(QCV M.epoch M.clock M.k.log m').2 }) (QAD ⟨hok,hM.acks _ _ _ _ M.ok,a,rfl,rfl⟩)
   ·rw[if_pos he]at hN;subst hN;exact QAK (GwL g a { M with m:=m',k:=⟨d',M.k.log,M.k.X⟩,ok:=false }) (QTk ⟨rfl,hM.acks _ _ M.acked M.os false,a,rfl,rfl⟩)
  ·rw[if_neg (by rw[h];decide)]at hN;subst hN;exact QAK (GwL g a { M with m:=m' }) (QAD ⟨hok,hM.acks M.k m' M.acked M.os M.ok,a,rfl,rfl⟩)
 ·rw[if_neg (ne_of_beq_false h2),if_pos (eq_of_beq h3)]at hN;iterate 5 (refine xgq ?_)
  refine QAE (s:=.slice) (x:=s) (hv:=rfl) (h:=?_);refine QAU [Ar U8 s p.body] (QCm (E:=U8) (xs:=p.body) s fun _ hsc=>?_);refine xcl (QJa g a M hM (by omega) p s hsc) rdb ?_;rintro _ _ ⟨hMo,a',hd,rfl⟩;subst hN;exact QFO (ca0 (QAa (l:=GwL g a' (QG6 M p)) (QAD ⟨by rw[QZg];exact hok,hMo,a',hd,rfl⟩)))
 ·rw[if_neg (ne_of_beq_false h2),if_neg (ne_of_beq_false h3)]at hN;subst hN;exact QAK (GwL g a M) (QAD ⟨hok,hM,a,rfl,rfl⟩)
def QQR(nm:ByteArray):List Pn.Tag→Int→Int
 | [],_=>-1
 | t::ts,i=>if (t.name.toList == nm.toList)=true then i else QQR nm ts (i+1)
def QJy(ts:List Pn.Tag)(nm:ByteArray):Int:=QQR nm ts 0
theorem QUI(nm:ByteArray):∀(ts:List Pn.Tag) (i:Int),QQR nm ts i = -1∨(i≤QQR nm ts i∧QQR nm ts i<i+ts.length)
 | [],i=>.inl rfl
 | t::ts,i=>by
  unfold QQR;split
  ·refine .inr ⟨Int.le_refl _,?_⟩;rw[List.length_cons];omega
  ·rcases QUI nm ts (i+1) with h|h
   ·exact .inl h
   ·refine .inr ⟨by omega,?_⟩;rw[List.length_cons];omega
theorem QXm(l:Sl)(ts:List Pn.Tag)(hl:ts.length≤1000000)(nm:ByteArray):Ct Pr 102 [l.v,.string nm] .one [.I] [] (RAr Pn.TG l ts) (fun t Bs=>t.1=QJy ts nm∧Bs=[]):=by
 refine sp1 (QSH _ _) fun B hr=>?_;haveI:Fro B l Pn.TG ts:=⟨hr⟩;have hn:=hr.1;unfold QSH mf;dsimp only;refine QBP (fun n (x:Int) As'=>∃i:Nat,x=(i:Int)∧n=ts.length - i∧i≤ts.length∧QJy ts nm=QQR nm (ts.drop i) i∧As'=[]) ts.length ⟨0,rfl,rfl,by omega,rfl,rfl⟩ ?_;rintro n x As' K ⟨i,rfl,rfl,hi,hf,rfl⟩ hK;refine QAA (fun hlt=>?_) (fun hlt=>?_)
 ·have hil:i<ts.length:=by omega
  obtain⟨t,ht⟩:∃t,ts[i]? = some t:=⟨_,List.getElem?_eq_getElem hil⟩
  have hdrop:ts.drop i=t::ts.drop (i+1):=by rw[List.drop_eq_getElem_cons hil];congr 1;exact (List.getElem?_eq_some_iff.1 ht).2
  rw[hdrop,QQR]at hf;refine QAH (E:=Pn.TG) (xs:=ts) (s:=l) (k:=i) (h1:=hil) (h:=fun _ _=>?_);refine QAN (E:=Pn.TG) (xs:=ts) ht (h:=xif (fun h=>?_) (fun h=>?_))
  ·rw[if_pos h]at hf;exact QAD ⟨hf.symm,rfl⟩
  ·rw[if_neg (by rw[h];decide)]at hf;rw[QAF i (by omega)];exact hK (ts.length - (i+1)) _ _ (by omega) ⟨i+1,rfl,rfl,by omega,hf,rfl⟩
 ·rw[List.drop_of_length_le (by omega)]at hf;exact QAD ⟨hf.symm,rfl⟩
def QgL(M:GM)(i:Nat)(nm:ByteArray):GM:=
 if (M.al.getD i ⟨0,false⟩).waits=true then
  { M with al:=M.al.set i ⟨(M.al.getD i ⟨0,false⟩).state,false⟩,k:=(QBn M.clock M.k M.lost ⟨2,0,nm,4,0⟩).k,lost:=(QBn M.clock M.k M.lost ⟨2,0,nm,4,0⟩).lost,ok:=(QBn M.clock M.k M.lost ⟨2,0,nm,4,0⟩).ok }
 else M
def QaZ(M:GM)(nm:ByteArray):GM:=if QJy M.ts nm<0 then M else QgL M (QJy M.ts nm).toNat nm
def doG(lg:LM)(X:XM)(span:Int)(a:AskV):RepV:=
 if a.code≠20 then ⟨1,[],[],[]⟩ else match QcI lg X span a.parts with
 | none=>⟨2,[],[],[]⟩
 | some fs=>⟨0,[],[],fs⟩
set_option synthInstance.maxSize 4000
set_option synthInstance.maxHeartbeats 200000
def Qg2(b0:UInt8)(e:Int):List UInt8:=[b0 ||| 128,if e=20 then 1 else 3]
def QhC(k:Kn)(span:Int)(pdu:List UInt8):Option (List UInt8):=
 if (QAX pdu).2=0 then
  (if (doG k.log k.X span (QAX pdu).1).e (QAX pdu).1≠0 then none else some (QfS (QAX pdu).1 (doG k.log k.X span (QAX pdu).1)))
 else some (Qg2 (pdu.getD 0 0) (QAX pdu).2)
def QZN(M:GM)(k:Kn)(f:QgX):GM:=match QhC k M.span f.pdu with
 | none=>{ M with k:=k }
 | some p=>{ M with k:=k,os:=M.os++[(3,(Qe7 (UInt16.ofNat f.tr) f.unit p).2)] }
def QUm(M:GM)(xs:List UInt8):GM:=
 if (QfQ xs).err≠0∨(QfQ xs).used≠xs.length∨((QfQ xs).pdu.getD 0 0).toNat≥128 then M
 else if (QJd M.k).2=true then QZN M (QJd M.k).1 (QfQ xs) else { M with k:=(QJd M.k).1,ok:=false }
theorem QU9{xs:List UInt8}(h:(QAX xs).2=0):(QAX xs).1.e=0:=by
 unfold QAX at h⊢;repeat' split at h
 all_goals first|(exfalso;revert h;decide)|skip
 ·contradiction
 ·contradiction
 ·rename_i n1 n2 n3 n4 n5
  rw[if_neg n1,if_neg n2,if_neg n3,if_neg n4,if_neg n5];exact Classical.not_not.1 n5
theorem QV6(a:AskV)(xs:List UInt8):QNP (QBp a xs).1.set:=by
 have nil:QNP []:=fun v h=>by cases h
 unfold QBp QQo;repeat' split
 all_goals try exact nil
 unfold QBo;repeat' split
 all_goals try exact nil
 unfold QCp;split
 ·exact QMa _
 ·exact nil
theorem QUS(m:MaM)(xs:List UInt8):QNP (QFr m xs).1.r.set∧(((QFr m xs).1.is=false∧(QFr m xs).2=m)∨((QFr m xs).1.is=true∧0<m.tries∧(QFr m xs).2=QDB m)):=by
 have nil:QNP []:=fun v h=>by cases h
 unfold QFr;split
 ·exact⟨nil,.inl ⟨rfl,rfl⟩⟩
 rename_i h
 (try simp only)
 split
 ·exact⟨nil,.inl ⟨rfl,rfl⟩⟩
 split
 ·exact⟨nil,.inl ⟨rfl,rfl⟩⟩
 ·exact⟨QV6 _ _,.inr ⟨rfl,by omega,rfl⟩⟩
abbrev GwR(g:Nat)(a:GwA)(M:GM)(R:List HP):List HP:=GwB g (cOf a M) M.os::QA7 a.dev a.log a.idx M.k::Od.JObj a.dev a.jr M.J::QBA a.up M.m::QA3 a.line M.ma::Ar Pn.TG a.tags M.ts::Pn.OPolls a.polls M.polls::Ar SLT a.slots M.slots::Ar HLT a.held M.held::Ar ALT a.alarms M.al::QQB a.queue M.queue::QXi a.cmd M.cmd::R
def QXb(M:GM)(xs:List UInt8):GM:=
 if (QFr M.ma xs).1.is=true then QHa { M with ma:=(QFr M.ma xs).2 } (QFr M.ma xs).1 else { M with ma:=(QFr M.ma xs).2 }
structure EvV where
 kind:Int
 now:Int
 data:List UInt8
 name:ByteArray
def QId(M:GM)(e:EvV):GM:=
 if e.kind=1 then QJh M e.now
 else if e.kind=2 then QXb M e.data
 else if e.kind=3 then QJm M e.data
 else if e.kind=4 then QUm M e.data
 else if e.kind=5 then QaZ M e.name
 else M
theorem MOk.stopped{M:GM}(h:MOk M):MOk { M with ma:=QDB M.ma }:=
 ⟨h.clock,h.keep,h.slots,h.polls,h.tags,h.held,h.al,h.queue,h.poll,fun q=>absurd q (by show ¬(0:Int)<0;decide)⟩
theorem QVd{φ:WP}(h:Ent B (QNG nilS []::As) φ):Ent B As φ:=by
 refine QAd OuE ?_;refine QBQ [Ar OuE ⟨none,0,0⟩ []] (QNG nilS []) (fun g hg=>⟨[],rfl,?_⟩) h;obtain⟨a,b,p1,p2,p3,p4,p5⟩:=hg;exact⟨a,b,p1,⟨b,fun _=>none,trivial,trivial,fun _=>.inr rfl,Sub.refl _,fun _ _ e=>by cases e⟩,p3,p4,p5⟩
def QBZ(M:GM)(e:EvV):GM×List QCS:=
 if M.stopped=true then (M,[])
 else ({ QId { M with os:=[] } e with os:=[],stopped:=!(QId { M with os:=[] } e).ok },if (QId { M with os:=[] } e).ok=true then (QId { M with os:=[] } e).os else [])
theorem QQM(q p:Option Addr)(l:LM):Ct Pr 41 [.pointer q] .one [.I] [QAY q p l] emp (fun t Bs=>t.1=l.lo∧Bs=[QAY q p l]):=by
 refine sp1 (QDO _) fun B _=>?_;unfold QDO mf;dsimp only;refine QXQ 0 fun hi b s cs hq hf hs=>?_;subst hq;refine QAQ (QAE (s:=.slice) (x:=s) (hv:=rfl) (h:=xif (fun h=>?_) (fun h=>?_)))
 ·have h0:cs.length=0:=by simp at h;omega
  have e:l.lo=l.first:=by
   unfold LM.lo
   cases hl:l.segs with
   | nil=>rfl
   | cons x r=>have:=hf.len;rw[hl,List.length_cons]at this;omega
  exact QAQ (xgq (QAx (p:=p) (l:=l) b s cs hi (QAD ⟨e.symm,rfl⟩)))
 ·have h0:0<cs.length:=by simp at h;omega
  obtain⟨c0,hc0⟩:∃c,cs[0]? = some c:=⟨_,List.getElem?_eq_getElem h0⟩;obtain⟨s0,hs0⟩:∃c,l.segs[0]? = some c:=⟨_,List.getElem?_eq_getElem (by rw[←hf.len];exact h0)⟩
  have e:l.lo=s0.first:=by
   unfold LM.lo
   cases hl:l.segs with
   | nil=>rw[hl]at hs0;cases hs0
   | cons x r=>rw[hl]at hs0;simp at hs0;rw[hs0]
  have hfe:=hf.each 0 c0 s0 hc0 hs0;refine QAQ (QAE (s:=.slice) (x:=s) (hv:=rfl) (h:=?_));refine QAH (E:=SEG) (xs:=cs) (s:=s) (k:=0) (h1:=h0) (h:=fun _ _=>?_);refine QAZ (E:=SEG) (xs:=cs) hc0 (h:=?_);exact QAx (p:=p) (l:=l) b s cs hi (QAD ⟨by rw[e,←hfe.2.1],rfl⟩)
structure StV where
 next:Int
 safe:Int
 first:Int
 acked:Int
 epoch:Int
 boots:Int
 lost:Int
 busy:Bool
def QWM(M:GM):StV:=⟨M.k.log.next,M.k.log.safe,M.k.log.lo,M.acked,M.epoch,M.boots,M.lost,decide (M.ma.tries>0)⟩
abbrev StT:List Sh:=[.I,.I,.I,.I,.I,.I,.I,.bool]
theorem QFx(g:Nat)(a:GwA)(M:GM):Ct Pr 13 [.pointer (some ⟨g,0,none⟩)] .agg StT (GwL g a M) emp
  (fun t Bs=>StV.mk t.1 t.2.1 t.2.2.1 t.2.2.2.1 t.2.2.2.2.1 t.2.2.2.2.2.1 t.2.2.2.2.2.2.1 t.2.2.2.2.2.2.2.1=QWM M∧Bs=GwL g a M):=by
 refine QAg (ss:=StT) (φ:=fun K=>(QCA _ K).1) (fun h=>cf _ rfl (by kernel_rfl) h) fun B _=>?_;show Ent B (GwL g a M) (QCA (some ⟨g,0,none⟩) fun x0 x1 x2 x3 x4 x5 x6 x7=>Ret B (ss:=StT) (fun t Bs=>StV.mk t.1 t.2.1 t.2.2.1 t.2.2.2.1 t.2.2.2.2.1 t.2.2.2.2.2.1 t.2.2.2.2.2.2.1 t.2.2.2.2.2.2.2.1=QWM M∧Bs=GwL g a M) (x0,x1,x2,x3,x4,x5,x6,x7,()));unfold QCA mf;dsimp only;refine QAL fun b=>QAO ?_;iterate 8 (refine xgf (h:=?_))
 refine xcl (QJT a.dev a.log a.idx M.k) rdb ?_;rintro⟨r,_⟩ _ ⟨h1,rfl⟩;simp only at h1;subst h1;refine QA5 (ca1 ?_);iterate 7 (refine xgc (h:=?_))
 refine QGn 0 fun hk=>?_;refine xd1 (QGB a.log a.dev M.k.log) ?_;iterate 6 (refine xgc (h:=?_))
 refine xd1 (QQM a.log a.dev M.k.log) ?_;refine QCs a.dev a.log a.idx M.k hk ?_;iterate 5 (refine xgc (h:=?_))
 refine xd1 (QRz a.line M.ma) ?_;iterate 4 (refine xgc (h:=?_))
 iterate 8 (refine xsq ?_)
 iterate 8 (refine xgq ?_)
 exact QAK (GwL g a M) (QAD ⟨rfl,rfl⟩)
theorem QU8(g:Nat)(a:GwA)(M:GM):Ct Pr 18 [.pointer (some ⟨g,0,none⟩)] .one [.ptr] (GwL g a M) emp (fun t Bs=>t.1=a.log∧Bs=GwL g a M):=by
 refine sp1 (QEZ _) fun B _=>?_;unfold QEZ mf;dsimp only;exact xgf (h:=QAK (GwL g a M) (QAD ⟨rfl,rfl⟩))
end Go.Cx
