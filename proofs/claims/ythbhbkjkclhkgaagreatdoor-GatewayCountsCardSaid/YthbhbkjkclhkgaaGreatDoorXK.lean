/-
The gateway of one tag: a tick.
-/
import Derived.Test.YthbhbkjkclhkgaaGreatDoorXJ
set_option linter.unusedVariables false
set_option maxRecDepth 100000
set_option synthInstance.maxSize 8000
set_option synthInstance.maxHeartbeats 400000
namespace Go.Cx
open Go Go.Cf Go.Cx.Cm
theorem drop_zero{m:DM}(h:Clm m)(nm:ByteArray):(QAj m nm).2=0:=by
 have e:(QAJ m nm).2=6\/(QAJ m nm).2=0:=by
  unfold QAJ QBb;rw[h.2];simp only[Wi,Oa];split
  ·exact .inl rfl
  ·unfold QD3;rw[QEe h];exact .inr rfl
 unfold QAj;rcases e with e|e
 ·rw[We e]
 ·rw[Wb (by rw[e];decide),e]
theorem QYc{m:DM}(h:Clm m)(lo:Int)(X:XM):Clm (saveM m lo X).1/\(saveM m lo X).2.2≠10:=by
 have h1:=Cm.drop_calm h idxNew;unfold saveM;rw[h.2,Wb Dc,Wb (by rw[drop_zero h];decide)];unfold QYL;generalize QUo (QB9 X lo).L=b;have a:=(Cm.append_calm h1.calm idxNew b).1;have c:=Cm.sync_calm a.calm idxNew;have d:=Cm.rename_calm c.calm idxNew idxN
 (try simp only)
 split
 ·exact⟨a.calm,a.err⟩
 split
 ·exact⟨c.calm,c.err⟩
 ·exact⟨d.calm,d.err⟩
def P0:Pn.Poll:=(Pn.planM [tagT]).getD 0 Pn.poll0
def fr0:Ab:=[1,4,0,5,0,1,33,203]
def A0:AskV:=(QAT (QGK (QFm P0))).1
theorem Qga:(QTp (UInt8.ofNat P0.unit.toNat) (QGK (QFm P0))).2=fr0:=Dk
theorem QfR:P0.unit=1:=Dk
structure CG(M:GM)(last:Int):Prop where
 ok:M.ok=true
 calm:Clm M.k.dev
 log:QgL M
 ts:M.ts=[tagT]
 polls:M.polls=[P0]
 slots:M.slots.length=1
 held:∃h,M.held=[h]/\(h.has=false/\last = -1\/h.has=true/\h.value=last)
 al:M.al=[⟨0,false⟩]
 queue:M.queue=[]
 cmd:M.cmd=none
 poll:M.poll = -1\/M.poll=0
 ma:M.ma.tries=0\/(M.ma.tries=1/\M.ma.unit=1/\M.ma.a=A0/\M.ma.fr=fr0/\M.poll=0)
 retr:M.ma.retries=0
structure Kp(M D:GM):Prop where
 k:D.k=M.k
 lost:D.lost=M.lost
 acked:D.acked=M.acked
 epoch:D.epoch=M.epoch
 m:D.m=M.m
 st:D.stopped=M.stopped
theorem Kp.trans{M D E:GM}(h:Kp M D)(g:Kp D E):Kp M E:=⟨g.k.trans h.k,g.lost.trans h.lost,g.acked.trans h.acked,g.epoch.trans h.epoch,g.m.trans h.m,g.st.trans h.st⟩
theorem Qd7{M:GM}{last now:Int}(h:CG M last)(c:M.os=[]):CG (QHA M now) last/\Kp M (QHA M now)/\(QHA M now).os=[]:=by
 unfold QHA;by_cases b:0<M.ma.tries/\M.ma.at_+M.ma.timeout<=QB7 M.clock now
 ·have d:M.ma.tries=1:=by have:=h.ma;omega
  have e:QDA M.ma (QB7 M.clock now)=([],⟨3,QPJ,M.ma.tries,true⟩,QCU M.ma):=by
   unfold QDA;rw[Wb (fun z=>z b),We (by rw[h.retr,d];decide)]
  rw[e];simp only[O7]
  have a:tick0 M now={ M with clock:=QB7 M.clock now,ma:=QCU M.ma,os:=[] }:=by
   unfold tick0;rw[e];simp[c]
  have f:QDh (tick0 M now) ⟨3,QPJ,M.ma.tries,true⟩=QYf { tick0 M now with cmd:=none,poll:=-1 } (tick0 M now).poll.toNat false:=by
   unfold QDh;rw[show (tick0 M now).cmd=none by rw[a];exact h.cmd]
   (try simp only)
   unfold QUT QOQ;rw[Wb (show ¬(3:Int)=1 by decide),We (by rw[a];exact h.ok)];rfl
  rw[f,a];exact⟨⟨h.ok,h.calm,⟨h.log.chain,h.log.lo,h.log.acked,h.log.se,h.log.safe⟩,h.ts,h.polls,by simp only[Ob];exact h.slots,h.held,h.al,h.queue,rfl,.inl rfl,.inl rfl,h.retr⟩,⟨rfl,rfl,rfl,rfl,rfl,rfl⟩,rfl⟩
 ·have e:QDA M.ma (QB7 M.clock now)=([],Qfu,M.ma):=by unfold QDA;rw[We b]
  have a:tick0 M now={ M with clock:=QB7 M.clock now,os:=[] }:=by
   unfold tick0;rw[e];simp[c]
  rw[e];simp only[Wi,Oa];rw[a];exact⟨⟨h.ok,h.calm,⟨h.log.chain,h.log.lo,h.log.acked,h.log.se,h.log.safe⟩,h.ts,h.polls,h.slots,h.held,h.al,h.queue,h.cmd,h.poll,h.ma,h.retr⟩,⟨rfl,rfl,rfl,rfl,rfl,rfl⟩,rfl⟩
theorem QcI{M:GM}{last:Int}(h:CG M last)(b:M.os=[]):CG (QHB M) last/\Kp M (QHB M)/\((QHB M).os=[]\/(QHB M).os=[(1,fr0)]):=by
 have a:CG M last/\Kp M M/\(M.os=[]\/M.os=[(1,fr0)]):=⟨h,⟨rfl,rfl,rfl,rfl,rfl,rfl⟩,.inl b⟩;unfold QHB;split
 ·exact a
 unfold QDT;rw[h.queue]
 (try simp only)
 unfold QLS;split
 ·exact a
 rename_i c
 have d:QTw M.slots M.clock=0:=by
  have:=QMo M.clock M.slots M.slots.length (Wt _);have e:=h.slots;unfold QTw at c|-;omega
 rw[d,h.polls];simp only[Z1,List.getD_cons_zero];split
 ·refine⟨⟨h.ok,h.calm,⟨h.log.chain,h.log.lo,h.log.acked,h.log.se,h.log.safe⟩,h.ts,rfl,h.slots,h.held,h.al,h.queue,h.cmd,.inr rfl,.inr ⟨rfl,QfR,rfl,Qga,rfl⟩,h.retr⟩,⟨rfl,rfl,rfl,rfl,rfl,rfl⟩,.inr ?_⟩;simp only[b,W6];rw[Qga]
 ·exact a
theorem Qdj{M:GM}{last:Int}(h:CG M last):CG (QKM M) last/\(QKM M).lost=M.lost/\(QKM M).acked=M.acked/\(QKM M).epoch=M.epoch/\(QKM M).os=M.os/\(QKM M).stopped=M.stopped/\QcJ M.k.log (QKM M).k.log/\(QKM M).k.log.next=M.k.log.next:=by
 have hc:=(Cm.syncL_calm h.calm M.k.log).1;have hl:=QdX M.k.dev h.log.chain;have b:=h.log.safe;have a:=h.log.se;unfold QKM QJ9;split
 ·refine⟨⟨by simp only;rw[On];exact hc.err,hc.calm,⟨hl.1.chain,by simp only;rw[hl.1.lo];exact h.log.lo,h.log.acked,⟨a.sent,a.top,?_⟩,?_⟩,h.ts,h.polls,h.slots,h.held,h.al,h.queue,h.cmd,h.poll,h.ma,h.retr⟩,rfl,rfl,rfl,rfl,rfl,hl.1,hl.2⟩
  ·have:=a.safe;rcases hl.1.safe with e|e <;> (simp only;rw[e];omega)
  ·(try simp only)
   rw[hl.2];rcases hl.1.safe with e|e <;> (rw[e];omega)
 ·refine⟨⟨rfl,h.calm,⟨h.log.chain,h.log.lo,h.log.acked,h.log.se,h.log.safe⟩,h.ts,h.polls,h.slots,h.held,h.al,h.queue,h.cmd,h.poll,h.ma,h.retr⟩,rfl,rfl,rfl,rfl,rfl,⟨h.log.chain,Uo _,rfl,.inl rfl,fun _ _ _=>rfl⟩,rfl⟩
theorem QeP{M:GM}{last:Int}(h:CG M last):CG (QFb M) last/\(QFb M).lost=M.lost/\(QFb M).acked=M.acked/\(QFb M).epoch=M.epoch/\(QFb M).os=M.os/\(QFb M).stopped=M.stopped/\(QFb M).k.log=M.k.log:=by
 have hc:=QYc h.calm M.k.log.lo M.k.X
 have up:∀{a:GM},Clm a.k.dev->a={ M with k:=⟨a.k.dev,M.k.log,a.k.X⟩,saved:=a.saved }->CG a last/\a.lost=M.lost/\a.acked=M.acked/\a.epoch=M.epoch/\a.os=M.os/\a.stopped=M.stopped/\a.k.log=M.k.log:=by
  intro a h1 b;rw[b];exact⟨⟨h.ok,by simp only;exact h1,⟨h.log.chain,h.log.lo,h.log.acked,h.log.se,h.log.safe⟩,h.ts,h.polls,h.slots,h.held,h.al,h.queue,h.cmd,h.poll,h.ma,h.retr⟩,rfl,rfl,rfl,rfl,rfl,rfl⟩
 unfold QFb;split
 ·unfold QLg
  (try simp only)
  rw[Wb hc.2];split
  ·exact up hc.1 rfl
  ·exact up hc.1 rfl
 ·exact up h.calm rfl
structure Kt(M D:GM):Prop where
 next:D.k.log.next=M.k.log.next
 lost:D.lost=M.lost
 lo:D.k.log.lo<=M.acked
 old:∀n,M.acked<=n->n<M.k.log.next->QCc D.k.log n=QCc M.k.log n
theorem QeO{M:GM}{last:Int}(h:CG M last):CG (QJd M) last/\(QJd M).stopped=M.stopped/\(QJd M).acked=M.acked/\Kt M (QJd M)/\∃l,(QJd M).os=M.os++l/\∀b,∃x,QQt b { QJd M with os:=[],stopped:=false } l={ b with sent:=x }:=by
 have hc:=Cm.trimL_calm h.calm M.k.log M.acked M.keep;have hl:=QdG M.k.dev h.log.chain M.acked M.keep;unfold QJd;rw[Wb (show ¬(QNG M.k M.acked M.keep).2=10 from hc.err)];generalize a:({ M with k:=(QNG M.k M.acked M.keep).1 }:GM)=D
 have i:D.k=(QNG M.k M.acked M.keep).1:=by rw[<-a]
 have c:D.k.log=(QC6 M.k.dev M.k.log M.acked M.keep).2.1:=by rw[i];rfl
 have d:D.k.log.lo<=M.acked:=by
  rw[c];have:=h.log.lo;rcases hl.2.2.2.1 with e|e<;>omega
 have hI:QgL D:=by
  refine⟨by rw[c];exact hl.1,by rw[<-a]at d|-;exact d,by rw[<-a];exact h.log.acked,?_,?_⟩
  ·rw[c,hl.2.2.1];rw[<-a];exact h.log.se
  ·rw[c,hl.2.2.1,hl.2.1];exact h.log.safe
 have f:=QR3 hI
 have j:CG (QRN D) last:=by
  refine⟨by rw[<-a];exact h.ok,by rw[<-a];exact hc.calm,⟨hI.chain,hI.lo,?_,f.1,hI.safe⟩,by rw[<-a];exact h.ts,by rw[<-a];exact h.polls,by rw[<-a];exact h.slots,by rw[<-a];exact h.held,by rw[<-a];exact h.al,by rw[<-a];exact h.queue,by rw[<-a];exact h.cmd,by rw[<-a];exact h.poll,by rw[<-a];exact h.ma,by rw[<-a];exact h.retr⟩;show D.acked<=(QBf D.epoch D.clock D.k.log D.m).1.base;rw[f.2];exact hI.acked
 refine⟨j,by rw[<-a];rfl,by rw[<-a];rfl,⟨?_,by rw[<-a];rfl,d,fun n h1 g=>?_⟩,(QBf D.epoch D.clock D.k.log D.m).2,by rw[<-a];rfl,fun b=>QV1 hI rfl rfl b⟩
 ·show D.k.log.next=_;rw[c];exact hl.2.1
 ·show QCc D.k.log n=_;rw[c]at d|-;exact hl.2.2.2.2.2 n Om g
theorem QfA(b:BM):QKh b fr0={ b with last:=fr0,wrong:=b.wrong||false }:=by
 unfold QKh;rw[Wb Dk,We Dk];rw[show ((QAT (QAZ fr0).2.2).1.code != 4)=false by decide +kernel]
theorem QfI{M:GM}{last:Int}(h:CG M last)(E:M.os=[])(now:Int):CG (QEU M now) last/\(QEU M now).stopped=M.stopped/\(QEU M now).acked=M.acked/\Kt M (QEU M now)/\∃c o,(QEU M now).os=c++o/\(c=[]\/c=[(1,fr0)])/\∀b,∃x,QQt b { QEU M now with os:=[],stopped:=false } o={ b with sent:=x }:=by
 obtain⟨f,p,q⟩:=Qd7 (now:=now) h E;obtain⟨g,r,s⟩:=QcI f q;obtain⟨i,t,a3,G,u,v,g3,j⟩:=Qdj g;obtain⟨m,w,a4,H,y,z,g4⟩:=QeP i;obtain⟨A,C,a5,k5,l,o5,D⟩:=QeO m;have a:=p.trans r
 have e:QEU M now=QJd (QFb (QKM (QHB (QHA M now)))):=by
  unfold QEU QTo;rw[We f.ok,We g.ok,We i.ok,We m.ok]
 rw[e];refine⟨A,by rw[C,z,v];exact a.st,by rw[a5,a4,a3];exact a.acked,⟨?_,?_,?_,fun n h1 d=>?_⟩,(QHB (QHA M now)).os,l,by rw[o5,y,u],s,D⟩
 ·rw[k5.next,g4,j,a.k]
 ·rw[k5.lost,w,t];exact a.lost
 ·have:=k5.lo;rw[a4,a3,a.acked]at this;exact this
 ·have I:=h.log.lo;rw[k5.old n (by rw[a4,a3,a.acked];exact h1) (by rw[g4,j,a.k];exact d),g4,g3.old n (by rw[a.k];omega) (by rw[a.k];exact d),a.k]
structure CI(b:BM)(M:GM)(last:Int):Prop where
 gw:CG M last
 run:M.stopped=false
 wrong:b.wrong=false
 blast:b.last=[]\/b.last=fr0
theorem CG.os0{M:GM}{last:Int}(h:CG M last):CG { M with os:=[] } last:=⟨h.ok,h.calm,⟨h.log.chain,h.log.lo,h.log.acked,h.log.se,h.log.safe⟩,h.ts,h.polls,h.slots,h.held,h.al,h.queue,h.cmd,h.poll,h.ma,h.retr⟩
theorem QQZ{M D:GM}{e:EvV}(a:M.stopped=false)(b:QFe { M with os:=[] } e=D)(c:D.ok=true):QB2 M e=({ D with os:=[],stopped:=false },D.os):=by
 unfold QB2;rw[Wb (by rw[a];decide),b];simp only[c,K5,O7]
theorem CG.back{D:GM}{last:Int}(h:CG D last):CG { D with os:=[],stopped:=false } last:=⟨h.ok,h.calm,⟨h.log.chain,h.log.lo,h.log.acked,h.log.se,h.log.safe⟩,h.ts,h.polls,h.slots,h.held,h.al,h.queue,h.cmd,h.poll,h.ma,h.retr⟩
theorem Kt.back{M D:GM}(h:Kt { M with os:=[] } D):Kt M { D with os:=[],stopped:=false }:=⟨h.next,h.lost,h.lo,h.old⟩
theorem QfT{b:BM}{M:GM}{last:Int}(h:CI b M last)(now:Int){nm:ByteArray}:CI (doB b M ⟨1,now,[],nm⟩) (QB2 M ⟨1,now,[],nm⟩).1 last/\(QB2 M ⟨1,now,[],nm⟩).1.acked=M.acked/\Kt M (QB2 M ⟨1,now,[],nm⟩).1:=by
 obtain⟨c,s,f,k,j,a,o,h1,d⟩:=QfI h.gw.os0 rfl now
 have g:QFe { M with os:=[] } ⟨1,now,[],nm⟩=QEU { M with os:=[] } now:=by unfold QFe;rw[We rfl]
 have e:=QQZ h.run g c.ok;unfold doB;rw[e];refine⟨⟨c.back,rfl,?_,?_⟩,f,k.back⟩
 all_goals
  (try simp only)
  rw[o];rcases h1 with rfl|rfl
  ·obtain⟨x,hx⟩:=d b;rw[W6,hx];first|exact h.wrong|exact h.blast
  ·obtain⟨x,hx⟩:=d { b with last:=fr0,wrong:=b.wrong||false };have i:QQt b { QEU { M with os:=[] } now with os:=[],stopped:=false } ([(1,fr0)]++a)=QQt (QKh b fr0) { QEU { M with os:=[] } now with os:=[],stopped:=false } a:=rfl;rw[i,QfA,hx];first|(simp only;rw[h.wrong];rfl)|exact .inr rfl
theorem QUY(xs:Ab):QC5 (QN6 xs)=(0,xs):=by
 unfold QC5 QN6
 have hl:(xs++QZE (QFr xs)).length=xs.length+2:=by simp[QZE]
 rw[hl,Wb Om,show xs.length+2 - 2=xs.length by omega,Z0,Lg,We rfl]
theorem QkJ:A0.code=4/\A0.addr=5/\A0.count=1/\A0.on=[]/\A0.set=[]/\A0.parts=[]:=Dk
theorem QgK:A0=⟨4,5,1,[],[],[]⟩:=by
 obtain⟨h1,a,b,c,d,e⟩:=QkJ;rw[<-h1,<-a,<-b,<-c,<-d,<-e]
theorem QUy:(QAZ fr0).1=0/\(QAZ fr0).2.1=1/\(QAT (QAZ fr0).2.2).2=0:=Dk
theorem Qf6:(QAT (QAZ fr0).2.2).1=A0:=by
 have h:(QAT (QAZ fr0).2.2).1.code=4/\(QAT (QAZ fr0).2.2).1.addr=5/\(QAT (QAZ fr0).2.2).1.count=1/\(QAT (QAZ fr0).2.2).1.on=[]/\(QAT (QAZ fr0).2.2).1.set=[]/\(QAT (QAZ fr0).2.2).1.parts=[]:=Dk
 obtain⟨h1,a,b,c,d,e⟩:=h;rw[QgK,<-h1,<-a,<-b,<-c,<-d,<-e]
abbrev QJS(v:Int):Ab:=4::2::QCr v
abbrev frA(v:Int):Ab:=QN6 (1::QJS v)
theorem QhN{v:Int}(h:0<=v/\v<=65535):IntKind.u16.wrap v=v:=by
 have a:(2 ^ IntKind.u16.bits:Int)=65536:=Dc
 have b:IntKind.u16.signed=false:=rfl;simp only[IntKind.wrap,a,b,Bool.false_and];simp;omega
theorem Qfl{v:Int}(h:0<=v/\v<=65535):QcB fr0 v=frA v:=by
 unfold QcB;rw[Qf6,QUy.1,QUy.2.1,QUy.2.2,Wb (by rintro (h|h)<;>exact h rfl),QgK]
 have b:Qew ⟨4,5,1,[],[],[]⟩ v=⟨0,[],[v],[]⟩:=by unfold Qew;rw[QhN h];rfl
 rw[b]
 have a:RepV.e ⟨4,5,1,[],[],[]⟩ ⟨0,[],[v],[]⟩=0:=by
  show Qea ⟨4,5,1,[],[],[]⟩ 0 0 1 []=0;decide +kernel
 have c:QGe ⟨4,5,1,[],[],[]⟩ ⟨0,[],[v],[]⟩=QJS v:=by
  unfold QGe;rw[We a];rfl
 have d:QTp 1 (QJS v)=(0,frA v):=by
  unfold QTp;rw[Wb Dc,Wb (show ¬QGG (QJS v).length≠0 from (by decide:¬QGG 4≠0))]
 rw[a,c,d,Wb (by rintro (h|h)<;>exact h rfl)]
theorem QfJ(v:Int):QAZ (frA v)=(0,1,QJS v):=by
 unfold QAZ;have hl:(frA v).length=7:=rfl;rw[hl,Wb Dc,Wb Dc,QUY,Wb (fun h=>h rfl),Wb (by show ¬QVG 1=false;decide)];rfl
theorem QgH{v:Int}(h:0<=v/\v<=65535):QGS (QCr v)=[v]:=by
 show [((((UInt8.ofNat (v.toNat / 256)).toNat*256+(UInt8.ofNat v.toNat).toNat:Nat):Int))]=[v];rw[Ub,Ub];congr 1;omega
theorem Qfh{v:Int}(h:0<=v/\v<=65535):QBq A0 (QJS v)=(⟨0,[],[v],[]⟩,0):=by
 rw[QgK]
 have e:AskV.e ⟨4,5,1,[],[],[]⟩=0:=Dk
 have a:QBl ⟨4,5,1,[],[],[]⟩ (QJS v)=(⟨0,[],[v],[]⟩,true):=by
  unfold QBl;rw[Wb Dc,Wb (by show ¬((2:Int)≠4 - 2);decide),Wb Dc]
  have b:QCZ ((QJS v).drop 2)=([v],0):=by
   unfold QCZ;rw[We (show ((QJS v).drop 2).length % 2=0 from (by decide:2 % 2=0))];show (QGS (QCr v),(0:Int))=_;rw[QgH h]
  rw[b];rfl
 unfold QBq;rw[e,Wb (fun h=>h rfl),Wb (show ¬(QJS v).length=0 from (by decide:¬4=0)),Wb (show ¬(((QJS v).getD 0 0).toNat:Int)=4+128 from (by decide:¬(4:Int)=4+128)),Wb (show ¬(((QJS v).getD 0 0).toNat:Int)≠4 from (by decide:¬(4:Int)≠4)),Wb (show ¬((QJS v).length:Int)<QWq ⟨4,5,1,[],[],[]⟩ from (by decide +kernel:¬(4:Int)<QWq ⟨4,5,1,[],[],[]⟩)),Wb (show ¬((QJS v).length:Int)>QWq ⟨4,5,1,[],[],[]⟩ from (by decide +kernel:¬(4:Int)>QWq ⟨4,5,1,[],[],[]⟩)),a,We rfl]
theorem QfC{m:MaM}(d:m.tries=1)(b:m.unit=1)(c:m.a=A0){v:Int}(h:0<=v/\v<=65535):QFc m (frA v)=(⟨1,⟨0,[],[v],[]⟩,m.tries,true⟩,QCU m):=by
 unfold QFc;rw[Wb Om,QfJ]
 (try simp only)
 rw[c,Qfh h,b];rfl
theorem QjS:P0.tags=[0]/\P0.unit=1/\P0.kind=4/\P0.addr=5/\P0.count=1:=Dk
theorem QhH{v:Int}(h:0<=v/\v<=65535):Pn.valN 1 1 0 (Pn.rawN false false false [QCf v])=v:=by
 have e:Pn.rawN false false false [QCf v]=v:=by
  unfold Pn.rawN;show ((QCf v).toNat:Int)=v;unfold QCf;rw[UInt16.toNat_ofNat'];omega
 rw[e];unfold Pn.valN Pn.nearN Pn.clampV;rw[Wb Om]
 have:(2*(v*1)+1) / (2*1)=v:=Om
 rw[this];rw[Wb Om,Wb Om];omega
theorem QY0{v:Int}(h:0<=v/\v<=65535):(Pn.valuesM [tagT] P0 0 [] [QCf v] 0).1=[v]:=by
 obtain⟨h1,f,b,a,c⟩:=QjS;unfold Pn.valuesM;rw[Wb Dk,Wb Dk,b,a,c,Wb (show ¬Pn.replyE 4 5 1 0 ([]:List Bool).length [QCf v].length 0≠0 from (by decide +kernel:¬Pn.replyE 4 5 1 0 0 1 0≠0)),Wb (fun h=>h rfl),h1]
 have d:Pn.withinT tagT P0=true:=Dk
 show (Pn.goV [tagT] P0 [] [QCf v] [0] []).1=[v];unfold Pn.goV;show (if Pn.withinT tagT P0=true then Pn.goV [tagT] P0 [] [QCf v] [] ([]++[Pn.valueM tagT P0 [] [QCf v]]) else ([],3)).1=[v];rw[We d];show [Pn.valueM tagT P0 [] [QCf v]]=[v];unfold Pn.valueM;rw[Wb Dc,a]
 have e:([QCf v].take ((tagT.addr - 5).toNat+tagT.width.toNat)).drop (tagT.addr - 5).toNat=[QCf v]:=by
  generalize QCf v=z;rfl
 rw[e];exact Uh (fun x=>[x]) (QhH h)
structure Pt(l l':LM)(rs:List RE):Prop where
 chain:Chn l'.segs
 next:l'.next=l.next+rs.length
 lo:l'.lo=l.lo
 safe0:l.safe<=l'.safe
 safe:l'.safe<=l'.next
 old:∀n,l.lo<=n->n<l.next->QCc l' n=QCc l n
 news:∀(j:Nat) r,rs[j]? = some r->(QCc l' (l.next+j)).2=0/\QD1 (QCc l' (l.next+j)).1=(r,0)
def QXe(r:RE):Int:=if r.kind=3 then r.val else if r.kind=1 then 1 else 0
def QIS:List RE->Int
 | []=>0
 | r::rs=>QXe r+QIS rs
theorem QLr:∀(a b:List RE),QIS (a++b)=QIS a+QIS b
 | [],b=>by simp[QIS]
 | r::a,b=>by simp only[Ul,QIS,QLr a b];omega
theorem Pt.refl{l:LM}(h:Chn l.segs)(b:l.safe<=l.next):Pt l l []:=⟨h,by simp,rfl,Uo _,b,fun _ _ _=>rfl,fun j r a=>by simp at a⟩
theorem Pt.trans{a b c:LM}{rs ss:List RE}(h:Pt a b rs)(g:Pt b c ss)(k:a.lo<=a.next):Pt a c (rs++ss):=by
 have h1:=h.next;have i:=h.lo;refine⟨g.chain,?_,g.lo.trans i,Int.le_trans h.safe0 g.safe0,g.safe,fun n e f=>?_,fun j r d=>?_⟩
 ·rw[g.next,h1,Wd];omega
 ·rw[g.old n Om Om];exact h.old n e f
 ·by_cases hj:j<rs.length
  ·rw[Wj hj]at d;rw[g.old _ Om Om];exact h.news j r d
  ·rw[Wr Om]at d;have:=g.news _ r d;rw[h1,show a.next+(rs.length:Int)+((j - rs.length:Nat):Int)=a.next+j by omega]at this;exact this
theorem QZv{k:Kn}{clock:Int}{r:RE}(hc:Clm k.dev)(f:Chn k.log.segs)(h:k.log.safe<=k.log.next)(hb:QD1 (QLb { r with time:=clock }).1=({ r with time:=clock },0)) :
  Clm (QHX clock k r).1.dev/\(QHX clock k r).2≠10/\(((QHX clock k r).2=0/\Pt k.log (QHX clock k r).1.log [{ r with time:=clock }])\/((QHX clock k r).2≠0/\Pt k.log (QHX clock k r).1.log [])):=by
 have h1:=(QZy hc clock r).1;refine⟨h1.calm,h1.err,?_⟩;obtain⟨g,c,b⟩:=QXX (m:=k.dev) f (QLb { r with time:=clock }).1
 have a:∀{n:Int},k.log.next<=n->k.log.safe<=(QAy k.dev k.log (QLb { r with time:=clock }).1).2.1.safe/\(QAy k.dev k.log (QLb { r with time:=clock }).1).2.1.safe<=n:=by
  intro n hn;rcases g.safe with e|e<;>rw[e] <;> omega
 unfold QHX
 (try simp only)
 split
 ·rename_i q
  obtain⟨b,d⟩:=b q;refine .inl ⟨rfl,g.chain,b,g.lo,(a (n:=k.log.next) (Uo _)).1,?_,g.old,fun j x hx=>?_⟩
  ·exact (a (by simp only;omega)).2
  ·cases j with
   | zero=>
    simp at hx;subst hx;simp only[Int.natCast_zero,Int.add_zero];rw[d];exact⟨rfl,hb⟩
   | succ j=>simp at hx
 ·rename_i q
  have c:=c q;exact .inr ⟨q,g.chain,by simp only[O8];omega,g.lo,(a (n:=k.log.next) (Uo _)).1,(a (by simp only;omega)).2,g.old,fun j x hx=>by simp at hx⟩
theorem QdD{clock v:Int}(hc:0<=clock/\clock<=1099511627776)(hv:0<=v/\v<=65535):QD1 (QLb ⟨1,clock,tName,v,0⟩).1=(⟨1,clock,tName,v,0⟩,0):=by
 refine QWW (.inl rfl) ?_ hc ⟨hv.1,by simp only;omega⟩ rfl (fun h=>absurd rfl h) (show tName.size<=200 by decide);unfold QCL;show (if ((!true && !(tName.toList == ByteArray.empty.toList))||((!true&&v != 0)||(!false&&(0:Int) != 0)))=true then 23 else if (!QA4 clock 0 1099511627776)=true then 3 else if (true && !QDQ tName)=true then 8 else if ((true && !QA4 v (-1099511627776) 1099511627776)||(false && !QA4 0 1 1099511627776))=true then 3 else 0)=(0:Int)
 have a:QDQ tName=true:=Dk
 have b:QA4 clock 0 1099511627776=true:=by unfold QA4;simp[hc.1,hc.2]
 have c:QA4 v (-1099511627776) 1099511627776=true:=by unfold QA4;simp;omega
 rw[a,b,c];rfl
theorem Qcr{clock n:Int}(hc:0<=clock/\clock<=1099511627776)(hn:1<=n/\n<=1099511627776):QD1 (QLb ⟨3,clock,ByteArray.empty,n,0⟩).1=(⟨3,clock,ByteArray.empty,n,0⟩,0):=by
 refine QWW (.inr (.inl rfl)) ?_ hc ⟨by simp only;omega,hn.2⟩ rfl (fun _=>rfl) (show ByteArray.empty.size<=200 by decide);unfold QCL;show (if ((!false && !(ByteArray.empty.toList == ByteArray.empty.toList))||((!true&&n != 0)||(!false&&(0:Int) != 0)))=true then 23 else if (!QA4 clock 0 1099511627776)=true then 3 else if (false && !QDQ ByteArray.empty)=true then 8 else if ((true && !QA4 n 1 1099511627776)||(false && !QA4 0 1 1099511627776))=true then 3 else 0)=(0:Int)
 have a:QA4 clock 0 1099511627776=true:=by unfold QA4;simp[hc.1,hc.2]
 have b:QA4 n 1 1099511627776=true:=by unfold QA4;simp;omega
 rw[a,b,show (ByteArray.empty.toList == ByteArray.empty.toList)=true from beq_self_eq_true _];rfl
structure Qje(k:Kn)(lost:Int)(N:Qc0):Prop where
 ok:N.ok=true
 calm:Clm N.k.dev
 pos:0<=N.lost
 rs:∃rs,Pt k.log N.k.log rs/\(∀r∈rs,0<=QXe r)/\QIS rs+N.lost=lost+1
theorem QaO{k:Kn}{clock lost v:Int}(hc:Clm k.dev)(d:Chn k.log.segs)(f:k.log.safe<=k.log.next)(hl:0<=lost/\lost<=100000)(g:0<=clock/\clock<=1099511627776)(hv:0<=v/\v<=65535):Qje k lost (QYd clock k lost ⟨1,0,tName,v,0⟩):=by
 obtain⟨h1,b,c⟩:=QZv (r:=⟨1,0,tName,v,0⟩) hc d f (QdD g hv);unfold QYd
 (try simp only)
 rw[Wb b];rcases c with⟨e,p⟩|⟨e,p⟩
 ·rw[We e];exact⟨rfl,h1,hl.1,_,p,fun r a=>by rw[Oe]at a;subst a;exact (by decide:(0:Int)<=1),by simp only[QIS,QXe];rw[Wb (show ¬(1:Int)=3 by decide),We True.intro];omega⟩
 ·rw[Wb e,QAC _ Om Om];exact⟨rfl,h1,by simp only;omega,[],p,fun r a=>(by cases a),by simp only[QIS];omega⟩
theorem QfS{k:Kn}{clock lost v:Int}(hc:Clm k.dev)(b:Chn k.log.segs)(c:k.log.safe<=k.log.next)(j:k.log.lo<=k.log.next)(hl:0<=lost/\lost<=100000)(d:0<=clock/\clock<=1099511627776)(hv:0<=v/\v<=65535):Qje k lost (QBi clock k lost ⟨1,0,tName,v,0⟩):=by
 unfold QBi;rw[We (.inl rfl)];split
 ·rw[QAC _ Om Om];exact⟨rfl,hc,by simp only;omega,[],Pt.refl b c,fun r a=>(by cases a),by simp only[QIS];omega⟩
 split
 ·rename_i _ l
  obtain⟨h1,f,g⟩:=QZv (r:=⟨3,0,ByteArray.empty,lost,0⟩) hc b c (Qcr (n:=lost) d ⟨Om,Om⟩)
  (try simp only)
  rw[Wb f];rcases g with⟨e,p⟩|⟨e,p⟩
  ·rw[We e];have q:=QaO (lost:=0) (v:=v) h1 p.chain p.safe ⟨Om,Om⟩ d hv;obtain⟨rs,h,i,m⟩:=q.rs;refine⟨q.ok,q.calm,q.pos,_,p.trans h j,fun r a=>?_,?_⟩
   ·rcases W4.1 a with a|a
    ·rw[Oe]at a;subst a;show 0<=(if (3:Int)=3 then lost else _);rw[We rfl];omega
    ·exact i r a
   rw[QLr];simp only[QIS,QXe,O7];omega
  ·rw[Wb e,QAC _ Om Om];exact⟨rfl,h1,by simp only;omega,[],p,fun r a=>(by cases a),by simp only[QIS];omega⟩
 ·exact QaO hc b c hl d hv
theorem Kt.refl{M:GM}(h:QgL M):Kt M M:=⟨rfl,rfl,h.lo,fun _ _ _=>rfl⟩
theorem QhE{M:GM}{last:Int}(h:CG M last)(o:M.os=[])(xs:Ab)(hx:(QAo xs).2≠0\/(QAo xs).1.kind=2):CG (QF0 M xs) last/\(QF0 M xs).stopped=M.stopped/\Kt M (QF0 M xs)/\∀b,∃x,QQt b { QF0 M xs with os:=[],stopped:=false } (QF0 M xs).os={ b with sent:=x }:=by
 have d:CG M last/\M.stopped=M.stopped/\Kt M M/\∀b,∃x,QQt b { M with os:=[],stopped:=false } M.os={ b with sent:=x }:=⟨h,rfl,.refl h.log,fun b=>⟨b.sent,by rw[o];rfl⟩⟩;unfold QF0;split
 ·exact d
 rename_i p
 rw[We (hx.resolve_left p)];generalize (QAo xs).1.epoch=i;generalize (QAo xs).1.seq=c;have f:=h.log.se;by_cases j:M.clock<0\/M.clock>1099511627776\/i≠M.m.epoch\/c<=M.m.base\/c>M.m.top
 ·have e:QWv M.m M.clock i c=(M.m,false):=by unfold QWv;rw[We j]
  rw[e];simp only[Wi,Oa];exact⟨d.1,trivial,d.2.2⟩
 ·have e:QWv M.m M.clock i c=({ M.m with base:=c,sent:=if c>M.m.sent then c else M.m.sent,since:=M.clock },true):=by unfold QWv;rw[Wb j]
  rw[e];simp only[O7];have hc:=Cm.saveC_calm h.calm ⟨c,M.epoch,M.boots⟩;unfold Qgo;rw[Wb hc.err];generalize a:({ M with m:={ M.m with base:=c,sent:=if c>M.m.sent then c else M.m.sent,since:=M.clock },k:=⟨(Csr.saveM M.k.dev ⟨c,M.epoch,M.boots⟩).1,M.k.log,M.k.X⟩,acked:=if (Csr.saveM M.k.dev ⟨c,M.epoch,M.boots⟩).2=0 then c else M.acked }:GM)=D
  have g:D.k.log=M.k.log:=by rw[<-a]
  have q:=h.log.lo;have u:=h.log.acked
  have hI:QgL D:=by
   rw[<-a];have v:=f.sent;have w:=f.top;have y:=f.safe;refine⟨h.log.chain,?_,?_,⟨?_,?_,?_⟩,h.log.safe⟩<;>simp only <;> (try split)<;>omega
  have l:=QR3 hI
  have r:CG (QRN D) last:=by
   refine⟨by rw[<-a];exact h.ok,by rw[<-a];exact hc.calm,⟨hI.chain,hI.lo,?_,l.1,hI.safe⟩,by rw[<-a];exact h.ts,by rw[<-a];exact h.polls,by rw[<-a];exact h.slots,by rw[<-a];exact h.held,by rw[<-a];exact h.al,by rw[<-a];exact h.queue,by rw[<-a];exact h.cmd,by rw[<-a];exact h.poll,by rw[<-a];exact h.ma,by rw[<-a];exact h.retr⟩;show D.acked<=(QBf D.epoch D.clock D.k.log D.m).1.base;rw[l.2];exact hI.acked
  refine⟨r,by rw[<-a];rfl,⟨?_,by rw[<-a];rfl,?_,fun n h1 t=>?_⟩,fun b=>?_⟩
  ·show D.k.log.next=_;rw[g]
  ·show D.k.log.lo<=_;rw[g];exact q
  ·show QCc D.k.log n=_;rw[g]
  ·have s:(QRN D).os=(QBf D.epoch D.clock D.k.log D.m).2:=by
    show D.os++_=_;rw[<-a]
    (try simp only)
    rw[o,W6]
   rw[s];exact QV1 hI rfl rfl b
theorem Qg4{b:BM}{M:GM}{last:Int}(h:CI b M last){nm:ByteArray}:CI (doB b M ⟨3,0,QBI (QWF b),nm⟩) (QB2 M ⟨3,0,QBI (QWF b),nm⟩).1 last/\Kt M (QB2 M ⟨3,0,QBI (QWF b),nm⟩).1:=by
 have hx:(QAo (QBI (QWF b))).2≠0\/(QAo (QBI (QWF b))).1.kind=2:=by
  unfold QBI;split
  ·rename_i a
   rw[QXD (.inr rfl) a rfl rfl (fun _=>rfl)];exact .inr rfl
  ·exact .inl (show ((1:Int)≠0) by decide)
 obtain⟨c,s,k,d⟩:=QhE h.gw.os0 rfl _ hx
 have f:QFe { M with os:=[] } ⟨3,0,QBI (QWF b),nm⟩=QF0 { M with os:=[] } (QBI (QWF b)):=by
  unfold QFe;rw[Wb (show ¬(3:Int)=1 by decide),Wb (show ¬(3:Int)=2 by decide),We (show (3:Int)=3 from rfl)]
 have e:=QQZ h.run f c.ok;unfold doB;rw[e];obtain⟨x,hx⟩:=d b;refine⟨⟨c.back,rfl,?_,?_⟩,k.back⟩ <;> (simp only;rw[hx])
 ·exact h.wrong
 ·exact h.blast
theorem Qf1{M:GM}{last v:Int}(h:CG M last)(p:M.os=[])(hv:0<=v/\v<=65535)(u:v≠last)(d:M.poll=0)(s:M.ma.tries=0)(hl:0<=M.lost/\M.lost<=100000)(t:0<=M.clock/\M.clock<=1099511627776)(tr:Int) :
  CG (QDh M ⟨1,⟨0,[],[v],[]⟩,tr,true⟩) v/\(QDh M ⟨1,⟨0,[],[v],[]⟩,tr,true⟩).stopped=M.stopped/\(QDh M ⟨1,⟨0,[],[v],[]⟩,tr,true⟩).os=[]/\0<=(QDh M ⟨1,⟨0,[],[v],[]⟩,tr,true⟩).lost/\∃rs,Pt M.k.log (QDh M ⟨1,⟨0,[],[v],[]⟩,tr,true⟩).k.log rs/\(∀r∈rs,0<=QXe r)/\QIS rs+(QDh M ⟨1,⟨0,[],[v],[]⟩,tr,true⟩).lost=M.lost+1:=by
 obtain⟨c,e,f⟩:=h.held;have hI:=h.log;have q:=QfS (k:=M.k) (v:=v) h.calm hI.chain hI.safe (by have:=hI.lo;have:=hI.acked;have:=hI.se.sent;have:=hI.se.top;have:=hI.se.safe;have:=hI.safe;omega) hl t hv
 have hb:QEt 0 0 c v M.clock=(⟨true,v,M.clock⟩,true):=by
  unfold QEt;rcases f with⟨h1,_⟩|⟨h1,i⟩
  ·rw[We h1]
  ·rw[Wb (by rw[h1];decide),We];rw[Wb Dc,i];unfold QJZ;split<;>omega
 generalize o:QBi M.clock M.k M.lost ⟨1,0,tName,v,0⟩=N at q
 have hS:QCN M.clock M.ts (M.polls.getD M.poll.toNat Pn.poll0) ⟨0,[],[v],[]⟩ ⟨M.k,M.lost,M.held,M.al,true⟩=⟨N.k,N.lost,[⟨true,v,M.clock⟩],[⟨0,false⟩],true⟩:=by
  unfold QCN;rw[h.ts,h.polls,d];show QEu M.clock [tagT] P0.tags (Pn.valuesM [tagT] P0 0 [] [QCf v] 0).1 ⟨M.k,M.lost,M.held,M.al,true⟩=_;rw[QY0 hv,QjS.1]
  have j:QNm M.clock ⟨M.k,M.lost,M.held,M.al,true⟩ 0 tagT v=⟨N.k,N.lost,[⟨true,v,M.clock⟩],M.al,N.ok⟩:=by
   unfold QNm
   (try simp only)
   rw[e,List.getD_cons_zero];rw[show QEt tagT.dead tagT.quiet c v M.clock=(⟨true,v,M.clock⟩,true) from hb];simp only[O7];rw[show QBi M.clock M.k M.lost ⟨1,0,tagT.name,v,0⟩=N from o];rfl
  have l:QE5 M.clock [tagT] ⟨M.k,M.lost,M.held,M.al,true⟩ 0 v=⟨N.k,N.lost,[⟨true,v,M.clock⟩],[⟨0,false⟩],true⟩:=by
   unfold QE5;rw[show Pn.tagAt [tagT] 0=some tagT from rfl];simp only[Z1];rw[j,q.ok];simp only[O7];unfold QR8
   (try simp only)
   rw[h.al]
   have m:QIc (QXi tagT) ⟨0,false⟩ v=(⟨0,false⟩,0):=by
    unfold QIc QXi;rw[Wb Dk];simp
   rw[show ([⟨0,false⟩]:List AlV).getD 0 ⟨0,false⟩=⟨0,false⟩ from rfl,m];rw[Wb (fun z=>z rfl)];rfl
  unfold QEu;rw[l];simp only[O7];unfold QEu;rfl
 have n:QDh M ⟨1,⟨0,[],[v],[]⟩,tr,true⟩=QYf (withV { M with cmd:=none,poll:=-1 } ⟨N.k,N.lost,[⟨true,v,M.clock⟩],[⟨0,false⟩],true⟩) 0 true:=by
  unfold QDh;rw[h.cmd]
  (try simp only)
  unfold QUT QOQ;simp only[O7];rw[hS,d];rfl
 rw[n];obtain⟨rs,a,g⟩:=q.rs;have b:=hI.se;refine⟨⟨rfl,q.calm,⟨a.chain,by show N.k.log.lo<=M.acked;rw[a.lo];exact hI.lo,hI.acked,⟨b.sent,b.top,Int.le_trans b.safe a.safe0⟩,a.safe⟩,h.ts,h.polls,by simp only[Ob];exact h.slots,⟨_,rfl,.inr ⟨rfl,rfl⟩⟩,rfl,h.queue,rfl,.inl rfl,.inl s,h.retr⟩,rfl,p,q.pos,rs,a,g⟩
theorem Qaw{b:BM}{M:GM}{last v:Int}(h:CI b M last)(hb:0<M.ma.tries)(hv:0<=v/\v<=65535)(i:v≠last)(hl:0<=M.lost/\M.lost<=100000)(j:0<=M.clock/\M.clock<=1099511627776){nm:ByteArray} :
  CI (doB { b with last:=[] } M ⟨2,0,frA v,nm⟩) (QB2 M ⟨2,0,frA v,nm⟩).1 v/\0<=(QB2 M ⟨2,0,frA v,nm⟩).1.lost/\∃rs,Pt M.k.log (QB2 M ⟨2,0,frA v,nm⟩).1.k.log rs/\(∀r∈rs,0<=QXe r)/\QIS rs+(QB2 M ⟨2,0,frA v,nm⟩).1.lost=M.lost+1:=by
 obtain⟨a,t2,t3,t4,t5⟩:=h.gw.ma.resolve_left Om;have h0:=h.gw.os0;have h1:CG { M with os:=[],ma:=QCU M.ma } last:=⟨h0.ok,h0.calm,⟨h0.log.chain,h0.log.lo,h0.log.acked,h0.log.se,h0.log.safe⟩,h0.ts,h0.polls,h0.slots,h0.held,h0.al,h0.queue,h0.cmd,h0.poll,.inl rfl,h0.retr⟩;obtain⟨c,s,o,p,rs,d,f⟩:=Qf1 h1 rfl hv i t5 rfl hl j M.ma.tries
 have g:QFe { M with os:=[] } ⟨2,0,frA v,nm⟩=QDh { M with os:=[],ma:=QCU M.ma } ⟨1,⟨0,[],[v],[]⟩,M.ma.tries,true⟩:=by
  unfold QFe;rw[Wb (show ¬(2:Int)=1 by decide),We (show (2:Int)=2 from rfl)];unfold QY4
  (try simp only)
  rw[QfC a t2 t3 hv];simp only[O7]
 have e:=QQZ h.run g c.ok;unfold doB;rw[e]
 (try simp only)
 rw[o];exact⟨⟨c.back,rfl,h.wrong,.inl rfl⟩,p,rs,d,f⟩
theorem QPx{m:DM}{nm:ByteArray}{b:Ab}(hc:Clm m)(hn:QDN nm=true)(a:¬(m.fs.length:Int)>=64)(c:¬(b.length:Int)>m.room - QBu m.fs) :
  QAF m nm b=({ m with fs:=(if QAk m.fs nm.toList then m.fs else QK1 m.fs (QAR m.fs nm.toList) ⟨nm,[],0⟩).set (QAR m.fs nm.toList) { (if QAk m.fs nm.toList then m.fs else QK1 m.fs (QAR m.fs nm.toList) ⟨nm,[],0⟩).getD (QAR m.fs nm.toList) ⟨nm,[],0⟩ with b:=((if QAk m.fs nm.toList then m.fs else QK1 m.fs (QAR m.fs nm.toList) ⟨nm,[],0⟩).getD (QAR m.fs nm.toList) ⟨nm,[],0⟩).b++b } },0):=by
 unfold QAF;rw[hn,hc.2,Ze a,Ze c,QEe hc];simp only[K5,Wi,Oa,Bool.and_false,Lo];rw[hc.2]
abbrev rmD(r:Int)(m:DM):DM:={ m with room:=r }
abbrev rmK(r:Int)(k:Kn):Kn:=⟨rmD r k.dev,k.log,k.X⟩
abbrev rmG(r:Int)(M:GM):GM:={ M with k:=rmK r M.k }
def opD:OpM:=⟨⟨QUQ 0,⟨0,0,[],0⟩,xm0⟩,⟨false,[]⟩,⟨0,0,0⟩,0,0⟩
def o5:OpM:=match opG (QUQ 5000) 0 with
 | .inr o=>o
 | .inl _=>opD
def cu1:Cu:=QMM ⟨0,0,0⟩
theorem QhC{r:Int}(h:400<=r):Csr.saveM (QUQ r) cu1=(rmD r o5.k.dev,0):=by
 have a:QAJ (QUQ r) Csr.newCu=(QUQ r,6):=Kr
 have b:QAF (QUQ r) Csr.newCu (Csr.fileC cu1)=(⟨false,false,0,r,[⟨Csr.newCu,Csr.fileC cu1,0⟩]⟩,0):=by
  rw[QPx (m:=QUQ r) ⟨rfl,rfl⟩ Dk (show ¬(0:Int)>=64 by decide) (by
   have e:((Csr.fileC cu1).length:Int)=30:=Dk
   rw[e];show ¬(30:Int)>r - 0;omega)]
  show _=_
  kernel_rfl
 unfold Csr.saveM;rw[Wb Dk,a,Wb (show ¬(6:Int)=10 by decide),b,Wb (show ¬(0:Int)≠0 by decide)];show _=_
 kernel_rfl
theorem Qiq{r:Int}(h:400<=r):opG (QUQ r) 0=.inr { o5 with k:=rmK r o5.k }:=by
 have a:opG (QUQ r) 0=QZl (QUQ r) ⟨1,0,[],0⟩ [] ⟨0,0,0⟩ 0:=Kr
 rw[a];unfold QZl;rw[show QMM ⟨0,0,0⟩=cu1 from rfl,QhC h,Wb (show ¬(0:Int)≠0 by decide)];show _=_
 kernel_rfl
abbrev QSf:Ab:=(QLb ⟨4,0,ByteArray.empty,1,0⟩).1
abbrev Qi4:DM×LM×Int×Int:=QAy o5.k.dev o5.k.log QSf
def apT(l:LM)(p:Ab)(a:DM×Int):DM×LM×Int×Int:=if a.2≠0 then (a.1,l,0,a.2) else (a.1,{ l with segs:=QVv [⟨1,0,0,[]⟩] p },0,0)
theorem QjC{r:Int}(h:400<=r):QAy (rmD r o5.k.dev) o5.k.log QSf=(rmD r Qi4.1,Qi4.2.1,Qi4.2.2.1,0):=by
 have a:QAy (rmD r o5.k.dev) o5.k.log QSf=apT o5.k.log QSf (QAF (rmD r o5.k.dev) (fN 1) (QAY QSf)):=Kr
 have b:(QBu o5.k.dev.fs:Int)=30:=Dk
 have c:((QAY QSf).length:Int)=23:=Dk
 have d:(o5.k.dev.fs.length:Int)=1:=Dk
 have e:Clm o5.k.dev:=by unfold Clm;decide +kernel
 rw[a,QPx (m:=rmD r o5.k.dev) e Dk (show ¬(o5.k.dev.fs.length:Int)>=64 by rw[d];decide) (show ¬((QAY QSf).length:Int)>r - QBu o5.k.dev.fs by rw[b,c];omega)];show _=_
 kernel_rfl
def k5:Kn:=(QHX 0 o5.k ⟨4,0,ByteArray.empty,1,0⟩).1
theorem QjH{r:Int}(h:400<=r):QHX 0 (rmK r o5.k) ⟨4,0,ByteArray.empty,1,0⟩=(rmK r k5,0):=by
 unfold QHX
 (try simp only)
 rw[show (QLb { kind:=4,time:=0,tag:=ByteArray.empty,val:=1,id:=0 }).1=QSf from rfl,QjC h];simp only[O7];show _=_
 kernel_rfl
theorem Qhd{r:Int}(h:400<=r):QBi 0 (rmK r o5.k) 0 ⟨4,0,ByteArray.empty,1,0⟩=⟨rmK r k5,0,true⟩:=by
 unfold QBi;rw[Wb (show ¬((4:Int)=1\/(4:Int)=2) by decide)];unfold QYd
 (try simp only)
 rw[QjH h,Wb (show ¬(0:Int)=10 by decide),We (show (0:Int)=0 from rfl)]
def QiN:GS×SeM:=QRd (QIM 0) o5
theorem Qih{r:Int}(h:400<=r):QRd (QIM 0) { o5 with k:=rmK r o5.k }=({ QiN.1 with k:=rmK r QiN.1.k },QiN.2):=by
 have a:QHT 0 ⟨rmK r o5.k,0,o5.J,[],true⟩ ⟨4,0,ByteArray.empty,1,0⟩=⟨rmK r k5,0,o5.J,[],true⟩:=by
  unfold QHT
  (try simp only)
  rw[Qhd h]
 have b:QRd (QIM 0) { o5 with k:=rmK r o5.k }=QFX 0 1 1 ⟨rmK r o5.k,0,o5.J,[],true⟩ (QG7 2 5 1 0):=Kr
 rw[b];unfold QFX;rw[a];show _=_
 kernel_rfl
def bt5:GM×List QCj:=match QJb (QIM 0) (QUQ 5000) 0 with
 | .inr x=>x
 | .inl _=>(QbU (QIM 0) o5 o5.k o5.J 0 QiN.2,[])
theorem QgZ{r:Int}(h:400<=r):QJb (QIM 0) (QUQ r) 0=.inr (rmG r bt5.1,bt5.2):=by
 unfold QJb;rw[Wb Dk,Wb Dc,Qiq h]
 (try simp only)
 unfold Qc7;rw[Qih h];show _=_
 kernel_rfl
def bm5:BM:=QQt { bm0 (QIM 0) with last:=[],epoch:=bt5.1.epoch,boots:=bt5.1.boots } bt5.1 bt5.2
theorem Qfd{r:Int}(h:400<=r)(a:r<=10000):QK8 (QIM 0) r=some (bm5,rmG r bt5.1):=by
 unfold QK8;rw[Wb Om];unfold QTA;rw[show QJb (bm0 (QIM 0)).cf (QUQ r) (bm0 (QIM 0)).now=.inr (rmG r bt5.1,bt5.2) from QgZ h]
 (try simp only)
 unfold Qcg;show _=_
 kernel_rfl
structure Un(l:LM)(seen:Int)(rs:List RE):Prop where
 lo:l.lo<=seen
 next:l.next=seen+rs.length
 get:∀(j:Nat) r,rs[j]? = some r->(QCc l (seen+j)).2=0/\QD1 (QCc l (seen+j)).1=(r,0)
theorem Un.kt{M D:GM}{a:Int}{rs:List RE}(h:Un M.k.log a rs)(d:M.acked<=a)(k:Kt M D):Un D.k.log a rs:=by
 have h1:=k.lo;have c:=h.next;refine⟨Om,by rw[k.next];exact c,fun j r b=>?_⟩;have hj:=(Wc.1 b).1;rw[k.old _ Om Om];exact h.get j r b
theorem Un.pt{l l':LM}{b:Int}{rs ss:List RE}(h:Un l b rs)(p:Pt l l' ss):Un l' b (rs++ss):=by
 have h1:=h.next;have d:=p.next;have c:=h.lo;refine⟨by rw[p.lo];exact c,by rw[Wd];omega,fun j r a=>?_⟩;by_cases hj:j<rs.length
 ·rw[Wj hj]at a;rw[p.old _ Om Om];exact h.get j r a
 ·rw[Wr Om]at a;have:=p.news _ r a;rw[h1,show b+(rs.length:Int)+((j - rs.length:Nat):Int)=b+j by omega]at this;exact this
theorem QDr:∀(rs:List RE) (h:∀r∈rs,0<=QXe r) (j:Nat),0<=QIS (rs.take j)/\QIS (rs.take j)<=QIS rs
 | [],_,j=>by simp[QIS]
 | r::rs,h,0=>by
  have h1:=h r (.head _);have a:=(QDr rs (fun x hx=>h x (.tail _ hx)) 0).1;have b:=(QDr rs (fun x hx=>h x (.tail _ hx)) 0).2;simp only[List.take_zero,QIS]at a b|-;omega
 | r::rs,h,j+1=>by
  have h1:=h r (.head _);have a:=QDr rs (fun x hx=>h x (.tail _ hx)) j;simp only[List.take_succ_cons,QIS];omega
theorem QaR{rs:List RE}{j:Nat}{r:RE}(h:rs[j]? = some r):QIS (rs.take (j+1))=QIS (rs.take j)+QXe r:=by
 rw[Og,h,QLr];simp[QIS]
structure LJ(b:BM)(M:GM)(last values counted samples seen:Int)(i:Nat):Prop where
 ci:CI b M last
 seen0:0<=seen
 pos:0<=samples/\0<=counted/\0<=M.lost
 vals:values<=i
 un:∃rs,Un M.k.log seen rs/\(∀r∈rs,0<=QXe r)/\samples+counted+QIS rs+M.lost=values
theorem LJ.val0{b:BM}{M:GM}{last a c d f:Int}{i:Nat}(h:LJ b M last a c d f i):0<=a:=by
 obtain⟨rs,u,p,e⟩:=h.un;have h0:=(QDr rs p rs.length).1;rw[Uk]at h0;have h1:=h.pos;omega
theorem CI.now{b:BM}{M:GM}{last:Int}(h:CI b M last)(n:Int):CI { b with now:=n } M last:=⟨h.gw,h.run,h.wrong,h.blast⟩
theorem LJ.tick{b:BM}{M:GM}{last d f g a:Int}{i:Nat}(h:LJ b M last d f g a i)(j:M.acked<=a) :
  LJ (QDJ b M 0 2).1 (QDJ b M 0 2).2 last d f g a i/\(QDJ b M 0 2).2.acked<=a:=by
 obtain⟨c,l,k⟩:=QfT (h.ci.now (IntKind.i64.wrap (b.now+QCB 2 6))) (IntKind.i64.wrap (b.now+QCB 2 6)) (nm:=ByteArray.empty);obtain⟨rs,u,p,e⟩:=h.un;refine⟨⟨c,h.seen0,⟨h.pos.1,h.pos.2.1,?_⟩,h.vals,rs,u.kt j k,p,?_⟩,?_⟩
 ·exact (show (QB2 M _).1.lost=M.lost from k.lost) ▸ h.pos.2.2
 ·show g+f+QIS rs+(QB2 M _).1.lost=d;rw[k.lost];exact e
 ·show (QB2 M _).1.acked<=a;rw[l];exact j
theorem LJ.ack{b:BM}{M:GM}{last a d f g:Int}{i:Nat}(h:LJ b M last a d f g i)(j:M.acked<=g) :
  LJ (QDJ b M 4 0).1 (QDJ b M 4 0).2 last a d f g i:=by
 obtain⟨c,k⟩:=Qg4 h.ci (nm:=ByteArray.empty);obtain⟨rs,u,p,e⟩:=h.un;refine⟨c,h.seen0,⟨h.pos.1,h.pos.2.1,?_⟩,h.vals,rs,u.kt j k,p,?_⟩
 ·exact (show (QB2 M _).1.lost=M.lost from k.lost) ▸ h.pos.2.2
 ·show f+d+QIS rs+(QB2 M _).1.lost=a;rw[k.lost];exact e
theorem LJ.answer{b:BM}{M:GM}{last g a d j v:Int}{i:Nat}(h:LJ b M last g a d j i)(hi:i<=1000)(hb:0<M.ma.tries)(hl:b.last.length>0)(hv:0<=v/\v<=65535)(s:v≠last)(t:0<=M.clock/\M.clock<=1099511627776) :
  LJ (QDJ b M 2 v).1 (QDJ b M 2 v).2 v (g+1) a d j (i+1):=by
 obtain⟨rs,u,p,e⟩:=h.un;have h0:=(QDr rs p rs.length).1;rw[Uk]at h0;have h1:=h.pos;have x:=h.vals;obtain⟨c,q,f,l,m,w⟩:=Qaw h.ci hb hv s ⟨h1.2.2,Om⟩ t (nm:=ByteArray.empty)
 have n:b.last=fr0:=h.ci.blast.resolve_left fun z=>by rw[z]at hl;exact absurd hl (Zu 0)
 have o:QDJ b M 2 v=(doB { b with last:=[] } M ⟨2,0,frA v,ByteArray.empty⟩,(QB2 M ⟨2,0,frA v,ByteArray.empty⟩).1):=by
  unfold QDJ QKi;rw[Wb (show ¬((2:Int)=0\/(2:Int)=1) by decide),We (show (2:Int)=2\/(2:Int)=3 by decide),QcV hv.1 (show v<65536 by omega),n,Qfl hv,We (show (frA v).length>0 from (by decide:(7:Nat)>0))];rfl
 rw[o];refine⟨c,h.seen0,⟨h1.1,h1.2.1,q⟩,Om,rs++f,u.pt l,fun r k=>(W4.1 k).elim (p r) (m r),?_⟩;rw[QLr];show d+a+(QIS rs+QIS f)+(QB2 M _).1.lost=_;omega
theorem LJ.done{b:BM}{M:GM}{last c d f g counted' samples':Int}{i:Nat}(h:LJ b M last c d f g i)(h1:0<=samples')(l:0<=counted')(hc:samples'+counted'+M.lost=c) :
  LJ b M last c counted' samples' M.k.log.next i/\M.acked<=M.k.log.next:=by
 obtain⟨rs,u,p,e⟩:=h.un;have hI:=h.ci.gw.log;have m:=hI.se.sent;have n:=hI.se.top;have o:=hI.se.safe;have q:=hI.safe;have s:=hI.acked;have t:=hI.lo;have:=u.next;have:=h.seen0;refine⟨⟨h.ci,Om,⟨h1,l,h.pos.2.2⟩,h.vals,[],⟨Om,by simp,fun j r a=>by simp at a⟩,fun r a=>(by cases a),by simp only[QIS];omega⟩,Om⟩
theorem Qat:(bt5.1.ok=true/\bt5.1.k.dev.armed=false/\bt5.1.k.dev.down=false/\bt5.1.stopped=false/\bm5.wrong=false/\bm5.last=[]) /\
  (bt5.1.k.log.segs.length<=1/\bt5.1.k.log.lo<=bt5.1.acked/\bt5.1.acked<=bt5.1.m.base/\bt5.1.m.base<=bt5.1.m.sent/\bt5.1.m.sent<=bt5.1.m.top/\bt5.1.m.top<=bt5.1.k.log.safe/\bt5.1.k.log.safe<=bt5.1.k.log.next) /\
  (bt5.1.slots.length=1/\bt5.1.poll = -1/\bt5.1.ma.tries=0/\bt5.1.ma.retries=0/\bt5.1.acked=0/\bt5.1.lost=0/\bt5.1.k.log.lo=0/\bt5.1.k.log.next=1/\(QCc bt5.1.k.log 0).2=0/\(QD1 (QCc bt5.1.k.log 0).1).2=0/\(QD1 (QCc bt5.1.k.log 0).1).1.kind=4):=Dk
theorem Qgz:bt5.1.ts=[tagT]:=Kr
theorem Qbb:bt5.1.polls=[P0]:=Kr
theorem QcO:bt5.1.held=[⟨false,0,0⟩]:=Kr
theorem Qgr:bt5.1.al=[⟨0,false⟩]:=Kr
theorem Qbd:bt5.1.queue=[]:=Kr
theorem Qfn:bt5.1.cmd=none:=Kr
theorem LJ.start(r:Int):LJ bm5 (rmG r bt5.1) (-1) 0 0 0 0 0/\(rmG r bt5.1).acked<=0:=by
 obtain⟨⟨h1,d,e,f,g,h⟩,⟨z,i,g3,g4,l,m,n⟩,o,p,q,t,A,f6,C,D,u,v,c⟩:=Qat
 have w:Chn bt5.1.k.log.segs:=fun k s y a b=>by
  have:=(Wc.1 b).1;omega
 refine⟨⟨⟨⟨h1,⟨d,e⟩,⟨w,i,g3,⟨g4,l,m⟩,n⟩,Qgz,Qbb,o,⟨_,QcO,.inl ⟨rfl,rfl⟩⟩,Qgr,Qbd,Qfn,.inl p,.inl q,t⟩,f,g,.inl h⟩,Uo _,⟨Uo _,Uo _,?_⟩,Dc,[(QD1 (QCc bt5.1.k.log 0).1).1],⟨?_,?_,fun j x hx=>?_⟩,fun x hx=>?_,?_⟩,?_⟩
 ·show 0<=bt5.1.lost;omega
 ·show bt5.1.k.log.lo<=0;omega
 ·show bt5.1.k.log.next=0+1;omega
 ·cases j with
  | zero=>
   simp at hx;subst hx;exact⟨u,Prod.ext rfl v⟩
  | succ j=>simp at hx
 ·rw[Oe]at hx;subst hx;unfold QXe;rw[c];decide
 ·simp only[QIS];show (0:Int)+0+(QXe _+0)+bt5.1.lost=0;unfold QXe;rw[c,f6];decide
 ·show bt5.1.acked<=0;omega
variable {B:QBJ}{As F:List HP}
theorem QhZ{s t u v x y:Sh}{body:(s.ty->t.ty->u.ty->v.ty->x.ty->y.ty->WP)->s.ty->t.ty->u.ty->v.ty->x.ty->y.ty->WP}{i:s.ty}{t0:t.ty}{j:u.ty}{v0:v.ty}{l:x.ty}{o:y.ty}
  (h:Nat->s.ty->t.ty->u.ty->v.ty->x.ty->y.ty->List HP->Prop) (n0:Nat) (h0:h n0 i t0 j v0 l o As)
  (round:∀n a b c d e f As' (K:s.ty->t.ty->u.ty->v.ty->x.ty->y.ty->WP),h n a b c d e f As'->(∀m a b c d e f g,m<n->h m a b c d e f g->Ent B g (K a b c d e f))->Ent B As' (body K a b c d e f)):Ent B As (QFl [s,t,u,v,x,y] body i t0 j v0 l o):=by
 intro w r;refine⟨n0+1,?_⟩
 have key:∀n a b c d e f As',h n a b c d e f As'->∀k,n<k->Ent B As' (Cur.app [s,t,u,v,x,y] (QEs [s,t,u,v,x,y] body k) (a,b,c,d,e,f,())):=by
  intro n
  induction n using Nat.strongRecOn with
  | _ n ih=>
   intro a b c d e f As' hI k z
   cases k with
   | zero=>omega
   | succ k=>exact round n a b c d e f As' (QEs [s,t,u,v,x,y] body k) hI fun m a b c d e f g p q=>ih m p a b c d e f g q k Om
 exact key n0 i t0 j v0 l o As h0 (n0+1) Om w r
def MVE:Enc (Int×Int):=⟨fun x=>[.I x.1,.I x.2],2,fun _=>rfl,fun x v h=>by simp at h;rcases h with rfl|rfl<;>rfl,Dc,(0,0)⟩
theorem QkA{b:BM}{M:GM}{a:Int}:QYb b M 0 a=true:=by
 unfold QYb;rw[show QCB 0 10=0 by decide];unfold QKi;rw[We (.inl rfl)];rfl
theorem QkP{b:BM}{M:GM}{a:Int}:QYb b M 4 a=true:=by
 unfold QYb;rw[show QCB 4 10=4 by decide];unfold QKi;rw[Wb Dc,Wb Dc,We rfl];rfl
theorem QkC{b:BM}{M:GM}{a:Int}:QYb b M 2 a=true:=by
 unfold QYb;rw[show QCB 2 10=2 by decide];unfold QKi;rw[Wb Dc,We (.inl rfl)];split
 ·rfl
 ·rename_i h
  split at h
  ·injection h with h;injection h with h1 c;rw[<-c];rfl
  ·cases h
theorem QXb(room:Int)(p:Sl)(H:List (Int×Int)):Ct Pr 5 [.I room,p.v] .one [.bool] [] ((GTab.and GBeh).and (RAr MVE p H)) (fun t Bs=>t.1=true/\Bs=[]):=by
 refine sp1 (QEo _ _) fun B f7=>?_;obtain⟨⟨g1,g2⟩,d9⟩:=f7;haveI:=QKj g1;haveI:=Qbx g2;haveI:Fro B p MVE H:=⟨d9⟩;have k3:=d9.1;have h9:∀{c:Bool}{As:List HP},c=true->Ent B As (Ret B (ss:=[.bool]) (fun t Bs=>t.1=true/\Bs=[]) (c,())):=fun h=>QAd (l:=[]) (QAD ⟨h,rfl⟩)
 have h':∀{As:List HP}{K:Bool->WP},(∀Bs,Ent B (Bs++As) (K true))->Ent B As (QAX Pr 15 [] .one [.bool] fun b9=>K b9):=fun h=>by
  refine xcl QYu rdb ?_;rintro⟨v,_⟩ Bs ⟨hv,_⟩;have hv:v=true:=hv.trans knownB_true;subst hv;exact ca1 (h Bs)
 unfold QEo mf;dsimp only;refine xcl (QTJ 0) rdb ?_;rintro⟨r,j0,j1,j2,j3,j4,s,_⟩ _ ⟨h1,X,o,d',e0,a4,rfl⟩;simp only at h1 X o d' e0 a4;subst h1 X o d' e0 a4;refine QAz (ca7 ?_);refine xcl (QC0 room 3000 ⟨Dc,Dc⟩) rdb ?_;have i0:=QL8 (k:=room) (n:=3000) Dc
 generalize QCB room 3000=k8 at *
 rintro⟨(e1:Int),_⟩ _ ⟨e2,rfl⟩;simp only at e2;subst e2;refine QA2 (ca1 ?_);rw[QAC (4600+e1) Om Om];generalize i7:4600+e1=a5;refine xcl (QMG (QIM 0) s a5) rdb ?_;rw[Qfd (r:=a5) Om Om];rintro⟨q,_⟩ _ h;rcases h with⟨_,h,_⟩|⟨k,g3,g4,h8,a0,f2,b7,f3,rfl⟩
 ·cases h
 simp only at f2;subst f2
 obtain⟨rfl,rfl⟩:bm5=g3/\rmG a5 bt5.1=g4:=by
  injection b7 with b7;injection b7 with c9 c';exact⟨c9,c'⟩
 clear b7;obtain⟨e3,A0⟩:=LJ.start a5
 have f4:bm5.cf=QIM 0:=Kr
 obtain⟨d,c1⟩:∃d,a0.dev=d:=⟨_,rfl⟩;rw[c1,<-f4];refine QLk (ca1 (QBH rfl ?_))
 refine QhZ (fun n (last:Int) (b1:Int) (Z:Int) (a1:Int) (w:Int) (i:Int) As'=>∃(j:Nat) (b:BM) (M:GM) (g:Nat) (a:GwA),i=(j:Int)/\n=150 - j/\LJ b M last b1 Z a1 w j/\M.acked<=w/\GFit M/\a.dev=d /\
  As'=BnO k s d (some ⟨g,0,none⟩) b::Ar Pn.TG s b.cf.tags::GwL g a M) 150 ⟨0,bm5,rmG a5 bt5.1,h8,a0,rfl,rfl,e3,A0,f3,c1,rfl⟩ ?_
 clear e3 A0 f3 f4 i7 c1 i0;rintro n last b1 Z a1 w i As' K ⟨j,b,M,g,a,rfl,rfl,e,e4,C,G,rfl⟩ g5;refine xif (fun h=>?_) (fun h=>h' fun Bs=>h9 rfl);obtain⟨e5,e6⟩:=Bool.and_eq_true_iff.1 h;have e5:=Ox e5;have e6:=Ox e6
 have d0:j<H.length:=Om
 obtain⟨m,e7⟩:∃m,H[j]? = some m:=⟨_,Wa d0⟩
 -- time goes on
 refine xcl (QI8 k s d g a G M b C 0 2 Dc Dc Dc QkA) rdb ?_;obtain⟨b3,c2⟩:=e.tick e4;have d1:=QIA b M 0 2
 generalize QDJ b M 0 2=i8 at *
 obtain⟨Y,a6⟩:=i8;rintro _ _ ⟨b4,b5,c3,c4,J⟩;simp only at d1 b4 J b3 c2;subst J;rw[<-d1];clear e e4 C G d1;refine QLk (ca1 ?_);refine QAH (E:=MVE) (xs:=H) (s:=p) (k:=j) (h1:=d0) (h:=fun _ _=>?_);refine QAN (E:=MVE) (xs:=H) e7 (h:=?_);refine xcl (QC0 m.1 3 ⟨Dc,Dc⟩) rdb ?_;rintro⟨(j5:Int),_⟩ _ ⟨_,rfl⟩;refine QA2 (ca1 ?_)
 -- acknowledged, or not
 refine QBh (fun As'=>∃(b:BM) (M:GM) (g:Nat) (a:GwA),LJ b M last b1 Z a1 w j/\GFit M/\a.dev=d/\As'=BnO k s d (some ⟨g,0,none⟩) b::Ar Pn.TG s b.cf.tags::GwL g a M) (fun b2 u=>?_) ?_
 ·refine xif (fun _=>?_) (fun _=>?_)
  ·refine xcl (QI8 k s d b5 c3 c4 a6 Y b4 4 0 Dc Dc Dc QkP) rdb ?_;have a':=b3.ack c2;have b0:=QIA Y a6 4 0
   generalize QDJ Y a6 4 0=d5 at *
   obtain⟨U,a7⟩:=d5;rintro _ _ ⟨a8,V,a2,c5,J⟩;simp only at b0 a8 J a';subst J;rw[<-b0];refine QLk (ca1 ?_);exact QAK (BnO k s d (some ⟨V,0,none⟩) U::Ar Pn.TG s U.cf.tags::GwL V a2 a7) (u _ ⟨U,a7,V,a2,a',a8,c5,rfl⟩)
  ·exact QAK (BnO k s d (some ⟨b5,0,none⟩) Y::Ar Pn.TG s Y.cf.tags::GwL b5 c3 a6) (u _ ⟨Y,a6,b5,c3,b3,b4,c4,rfl⟩)
 clear b3 c2 b4 c4;rintro _ ⟨b,M,g,a,e,C,G,rfl⟩;refine QAH (E:=MVE) (xs:=H) (s:=p) (k:=j) (h1:=d0) (h:=fun _ _=>?_);refine QAa (E:=MVE) (xs:=H) e7 (h:=?_);refine xcl (QC0 m.2 65536 ⟨Dc,Dc⟩) rdb ?_;have hv:=QL8 (k:=m.2) (n:=65536) Dc
 generalize QCB m.2 65536=v at *
 rintro⟨(a9:Int),_⟩ _ ⟨e8,rfl⟩;simp only at e8;subst e8;refine QA2 (ca1 ?_)
 -- is a value told?
 refine QAV (fun(c:Bool) As'=>(c=true->a9≠last/\b.last.length>0)/\As'=BnO k s d (some ⟨g,0,none⟩) b::Ar Pn.TG s b.cf.tags::GwL g a M) (fun b2 u=>?_) ?_
 ·refine xif (fun h1=>?_) (fun h1=>?_)
  ·refine xbn 0 fun p ls fs A hl=>xng (xgS ls ?_);refine QB6 1 (P1:=QAt p) (fun f f8=>QMh hl.last f8) fun i'=>?_;refine QMn k s d (some ⟨g,0,none⟩) b p ls fs A hl ?_;refine QAb (BnO k s d (some ⟨g,0,none⟩) b::Ar Pn.TG s b.cf.tags::GwL g a M) (u _ _ ⟨fun X=>⟨On.1 h1,?_⟩,rfl⟩);have:=Ox X;omega
  ·exact u _ _ ⟨fun h=>(by cases h),rfl⟩
 rintro c _ ⟨hc,rfl⟩;refine QAV (fun(c:Bool) As'=>(c=true->(a9≠last/\b.last.length>0)/\0<M.ma.tries)/\As'=BnO k s d (some ⟨g,0,none⟩) b::Ar Pn.TG s b.cf.tags::GwL g a M) (fun b2 u=>?_) ?_
 ·refine xif (fun h1=>?_) (fun h1=>?_)
  ·refine xbn 0 fun p ls fs A hl=>xng (xgq ?_);refine QMn k s d (some ⟨g,0,none⟩) b p ls fs A hl ?_;refine xcl (QDd g a M) rdb ?_;rintro⟨j6,j7,j8,j9,g6,g7,j',b9,_⟩ _ ⟨W,rfl⟩;simp only at W;have f5:b9=decide (M.ma.tries>0):=Uh StV.busy W;refine QFE (ca8 ?_);refine QAK (BnO k s d (some ⟨g,0,none⟩) b::Ar Pn.TG s b.cf.tags::GwL g a M) (u _ _ ⟨fun X=>⟨hc h1,?_⟩,rfl⟩);rw[X]at f5;exact Ox f5.symm
  ·exact u _ _ ⟨fun h=>(by cases h),rfl⟩
 clear hc;rintro c _ ⟨hc,rfl⟩;refine QhT (fun(d6:Int) (d7:Int) As'=>∃(b:BM) (M:GM) (g:Nat) (a:GwA),LJ b M d6 d7 Z a1 w (j+1)/\GFit M/\a.dev=d/\As'=BnO k s d (some ⟨g,0,none⟩) b::Ar Pn.TG s b.cf.tags::GwL g a M) (fun b2 u=>?_) ?_
 ·refine xif (fun h1=>?_) (fun h1=>?_)
  ·obtain⟨⟨g8,g9⟩,g'⟩:=hc h1;refine xcl (QI8 k s d g a G M b C 2 a9 Dc Dc Dc QkC) rdb ?_;have a':=e.answer Om g' g9 ⟨hv.1,Om⟩ g8 C.ok.clock;have b0:=QIA b M 2 a9
   generalize QDJ b M 2 a9=d5 at *
   obtain⟨U,a7⟩:=d5;rintro _ _ ⟨a8,V,a2,c5,J⟩;simp only at b0 a8 J a';subst J;rw[<-b0];refine QLk (ca1 ?_);have i1:=e.vals;have k4:=e.val0;rw[QAC (b1+1) Om Om];exact QAK (BnO k s d (some ⟨V,0,none⟩) U::Ar Pn.TG s U.cf.tags::GwL V a2 a7) (u _ _ _ ⟨U,a7,V,a2,a',a8,c5,rfl⟩)
  ·refine u _ _ _ ⟨b,M,g,a,⟨e.ci,e.seen0,e.pos,?_,e.un⟩,C,G,rfl⟩;have:=e.vals;omega
 clear e C G hc;rintro d6 d7 _ ⟨b,M,g,a,e,C,G,rfl⟩;refine xbn 0 fun p ls fs A hl=>xng (xgq ?_);refine QMn k s d (some ⟨g,0,none⟩) b p ls fs A hl ?_;clear A hl;refine xcl (QDd g a M) rdb ?_;rintro⟨h0,L,N,O,P,Q,h2,R,_⟩ _ ⟨W,rfl⟩;simp only at W;have c9:h0=M.k.log.next:=Uh StV.next W;have c':h2=M.lost:=Uh StV.lost W;subst c9 c';clear W;refine QFE (ca8 (QAL fun D=>?_));iterate 8 (refine xsq ?_)
 refine QAK (Blk D [.I M.k.log.next,.I L,.I N,.I O,.I P,.I Q,.I M.lost,.bool R]::BnO k s d (some ⟨g,0,none⟩) b::Ar Pn.TG s b.cf.tags::GwL g a M) ?_;obtain⟨rs,e9,b6,k0⟩:=e.un;have f6:=e.pos;have f9:=e.seen0;have i1:=e.vals;have i2:=(QDr rs b6 rs.length).1;rw[Uk]at i2;have i3:=e9.next
 refine Qgy (fun n (S:Int) (T:Int) (d8:Int) As'=>∃i:Nat,i<=rs.length/\n=rs.length - i/\d8=w+i/\0<=S/\0<=T/\T+S=a1+Z+QIS (rs.take i) /\
  As'=Blk D [.I M.k.log.next,.I L,.I N,.I O,.I P,.I Q,.I M.lost,.bool R]::BnO k s d (some ⟨g,0,none⟩) b::Ar Pn.TG s b.cf.tags::GwL g a M) rs.length ⟨0,Ua _,rfl,by simp,f6.2.1,f6.1,by simp[QIS],rfl⟩ ?_
 rintro n S T d8 As' b2 ⟨i,hi,rfl,rfl,h3,h4,h5,rfl⟩ u;have k5:=QDr rs b6 i;refine xgq (QAB (fun h1=>?_) (fun h1=>?_))
 ·have d2:i<rs.length:=Om
  obtain⟨x,hx⟩:∃x,rs[i]? = some x:=⟨_,Wa d2⟩;obtain⟨e',f0⟩:=e9.get i x hx;have d3:=b6 x (Wp hx);have d4:=QaR hx;have k6:=QDr rs b6 (i+1);refine xbn 1 fun p ls fs A hl=>xng (xgq ?_);refine QMn k s d (some ⟨g,0,none⟩) b p ls fs A hl ?_;clear A hl;refine xcl (QQF g a M) rdb ?_;rintro⟨k1,_⟩ _ ⟨f1,rfl⟩;simp only at f1;subst f1;refine QFE (ca1 ?_);refine QG8 1 fun b'=>?_;have k7:=b'.ldev.log.next;refine xcl (QFu a.log a.dev M.k.log (w+i) ⟨Om,Om⟩) rdb ?_;have i4:=QJe b'.ldev.log (w+i)
  generalize QCc M.k.log (w+i)=i9 at *
  obtain⟨c6,g6⟩:=i9;rintro⟨c7,g7,_⟩ _ ⟨a4,rfl⟩;simp only at a4 e' f0 i4;subst a4 e';refine QBK (ca2 ?_);refine QCh a.dev a.log a.idx M.k b' ?_;refine QAb (Ar U8 c7 c6::Blk D [.I M.k.log.next,.I L,.I N,.I O,.I P,.I Q,.I M.lost,.bool R]::BnO k s d (some ⟨g,0,none⟩) b::Ar Pn.TG s b.cf.tags::GwL g a M) ?_;refine QCl (E:=U8) (xs:=c6) c7 fun f9 f'=>?_;refine xcl (QUp c7 c6 f' Om) rdb ?_;rintro⟨t0,k2,t2,t3,t4,t5,_⟩ _ c8;unfold QNU at c8;rw[f0]at c8;obtain⟨rfl,rfl,rfl,rfl,rfl,rfl,rfl⟩:=c8;refine QA2 (Pn.ca6 (QAL fun c0=>?_));iterate 5 (refine xsq ?_)
  refine QBH rfl ?_;refine QAK (Blk c0 [.I x.kind,.I x.time,.string x.tag,.I x.val,.I x.id]::Blk D [.I M.k.log.next,.I L,.I N,.I O,.I P,.I Q,.I M.lost,.bool R]::BnO k s d (some ⟨g,0,none⟩) b::Ar Pn.TG s b.cf.tags::GwL g a M) ?_;unfold QXe at d4 d3;refine xgq (QAV (fun(z:Int) As'=>z=(if x.kind=3 then S+x.val else S)/\As'=Blk c0 [.I x.kind,.I x.time,.string x.tag,.I x.val,.I x.id]::Blk D [.I M.k.log.next,.I L,.I N,.I O,.I P,.I Q,.I M.lost,.bool R]::BnO k s d (some ⟨g,0,none⟩) b::Ar Pn.TG s b.cf.tags::GwL g a M) (fun g0 a3=>?_) ?_)
  ·refine xif (fun o=>xgq (a3 _ _ ⟨?_,rfl⟩)) (fun o=>a3 _ _ ⟨?_,rfl⟩)
   ·have o:x.kind=3:=eq_of_beq o;rw[We o]at d4 d3|-;exact QAC _ Om Om
   ·rw[Wb (Wv o)]
  rintro z _ ⟨rfl,rfl⟩;refine xgq (QAV (fun(y:Int) As'=>y=(if x.kind=1 then T+1 else T)/\As'=Blk c0 [.I x.kind,.I x.time,.string x.tag,.I x.val,.I x.id]::Blk D [.I M.k.log.next,.I L,.I N,.I O,.I P,.I Q,.I M.lost,.bool R]::BnO k s d (some ⟨g,0,none⟩) b::Ar Pn.TG s b.cf.tags::GwL g a M) (fun g0 a3=>?_) ?_)
  ·refine xif (fun o=>a3 _ _ ⟨?_,rfl⟩) (fun o=>a3 _ _ ⟨?_,rfl⟩)
   ·have o:x.kind=1:=eq_of_beq o;rw[We o];exact QAC _ Om Om
   ·rw[Wb (Wv o)]
  rintro y _ ⟨rfl,rfl⟩;rw[show IntKind.i64.wrap (w+(i:Int)+1)=w+((i+1:Nat):Int) by rw[QAC _ Om Om];omega];refine QAK (Blk D [.I M.k.log.next,.I L,.I N,.I O,.I P,.I Q,.I M.lost,.bool R]::BnO k s d (some ⟨g,0,none⟩) b::Ar Pn.TG s b.cf.tags::GwL g a M) (u (rs.length - (i+1)) _ _ _ _ Om ⟨i+1,Om,rfl,rfl,?_,?_,?_,rfl⟩)
  ·split<;>split at d3<;>omega
  ·split<;>omega
  ·rw[d4];by_cases b8:x.kind=3
   ·rw[We b8,We b8,Wb Om];omega
   ·rw[Wb b8,Wb b8];split<;>omega
 ·have d2:i=rs.length:=Om
  subst d2;rw[Uk]at h5;refine xbn 1 fun p ls fs A hl=>xng (xgq ?_);refine QMn k s d (some ⟨g,0,none⟩) b p ls fs A hl ?_;clear A hl;refine QAb (Blk D [.I M.k.log.next,.I L,.I N,.I O,.I P,.I Q,.I M.lost,.bool R]::BnO k s d (some ⟨g,0,none⟩) b::Ar Pn.TG s b.cf.tags::GwL g a M) ?_;have i5:b.wrong=false:=e.ci.wrong;refine QAM (QBH i5 (xgq (QBH ?_ ?_)))
  ·rw[QAC (T+S) Om Om,QAC _ Om Om];rw[K7];omega
  obtain⟨h6,h7⟩:=e.done (samples':=T) (counted':=S) h4 h3 Om;have i6:w+(rs.length:Int)=M.k.log.next:=i3.symm;rw[i6,QAE j Om];exact QAK (BnO k s d (some ⟨g,0,none⟩) b::Ar Pn.TG s b.cf.tags::GwL g a M) (g5 (150 - (j+1)) _ _ _ _ _ _ _ Om ⟨j+1,b,M,g,a,rfl,rfl,h6,h7,C,G,rfl⟩)
end Go.Cx
