/-
Memory in pieces: what a state of a call holds, and what each formula makes of it.
-/
import Derived.Test.YthbhbkjkclhkgaaGreatDoorA2
import Derived.Below
import Derived.Laws.Append
import Derived.Laws.AppendOwn
import Derived.Laws.MakeOwn
import Derived.Deep.Matrix
import Derived.Carry
import Derived.SizedLaws
import Derived.Laws.Externs
import Derived.DefersIn
import Derived.RecoverIn
import Derived.MapKept
import Derived.Laws.IdiomStrings
import Derived.RangeFuncSeq
set_option linter.unusedSimpArgs false
set_option linter.unusedSectionVars false
namespace Go.Cf
open Go
abbrev QBs:=Nat->Option Obj
abbrev HP:=QBs->Prop
def Sub(h g:QBs):Prop:=∀k o,h k=some o->g k=some o
def Dis(h g:QBs):Prop:=∀k,h k=none\/g k=none
abbrev mem(w:World):QBs:=fun k=>w.heap[k]?
theorem Sub.refl(h:QBs):Sub h h:=fun _ _ e=>e
theorem Sub.trans{a b c:QBs}(h:Sub a b)(k:Sub b c):Sub a c:=fun i o e=>k i o (h i o e)
theorem Dis.symm{a b:QBs}(h:Dis a b):Dis b a:=fun k=>(h k).symm
theorem Dis.sub{a c b d:QBs}(h:Dis a b)(j:Sub c a)(hb:Sub d b):Dis c d:=fun k=>by
 rcases h k with e|e
 ·left
  cases g:c k with
  | none=>rfl
  | some o=>rw[j k o g]at e;cases e
 ·right
  cases i:d k with
  | none=>rfl
  | some o=>rw[hb k o i]at e;cases e
def uni(h g:QBs):QBs:=fun k=>match h k with
 | some o=>some o
 | none=>g k
theorem QBV(h g:QBs):Sub h (uni h g):=fun k o e=>by simp[uni,e]
theorem QBU{h g:QBs}(d:Dis h g):Sub g (uni h g):=fun k o e=>by
 rcases d k with a|a
 ·simp[uni,a,e]
 ·rw[e]at a;cases a
theorem QDe{h g f:QBs}(a:Sub h f)(b:Sub g f):Sub (uni h g) f:=fun k o e=>by
 unfold uni at e
 cases c:h k with
 | some o'=>rw[c]at e;exact a k o (by rw[c];exact e)
 | none=>rw[c]at e;exact b k o e
theorem QDH{h g:QBs}{k:Nat}:uni h g k=none↔h k=none/\g k=none:=by
 unfold uni;cases h k<;>simp
theorem QT8{a h g:QBs}(x:Dis a h)(y:Dis a g):Dis a (uni h g):=fun k=>by
 rcases x k with e|e
 ·exact .inl e
 ·rcases y k with b|b
  ·exact .inl b
  ·exact .inr (QDH.2 ⟨e,b⟩)
def QBr:List HP->HP
 | []=>fun _=>True
 | P::Ps=>fun h=>∃h1 a,P h1/\QBr Ps a/\Dis h1 a/\Sub h1 h/\Sub a h
theorem QCn:∀(l:List HP) {h g:QBs},QBr l h->Sub h g->QBr l g:=by
 intro l
 cases l with
 | nil=>intro h g _ _;trivial
 | cons P l=>rintro h g ⟨a,b,c,i,d,j,k⟩ s;exact⟨a,b,c,i,d,j.trans s,k.trans s⟩
theorem QDz{P Q:HP}{l:List HP}{h:QBs}(r:QBr (P::Q::l) h):QBr (Q::P::l) h:=by
 obtain⟨a,b,m,⟨c,d,n,o,p,j,g⟩,i,q,k⟩:=r;refine⟨c,uni a d,n,⟨a,d,m,o,i.sub (Sub.refl _) g,QBV _ _,QBU (i.sub (Sub.refl _) g)⟩,?_,j.trans k,QDe q (g.trans k)⟩;exact QT8 (i.sub (Sub.refl _) j).symm p
theorem QBC{P:HP}{l l':List HP}(h:∀g,QBr l g->QBr l' g){g:QBs}(m:QBr (P::l) g):QBr (P::l') g:=by
 obtain⟨a,b,c,i,d,j,k⟩:=m;exact⟨a,b,c,h _ i,d,j,k⟩
theorem QFx{l l':List HP}(p:l.Perm l'):∀{h:QBs},QBr l h->QBr l' h:=by
 induction p with
 | nil=>exact fun h=>h
 | cons x _ ih=>exact fun h=>QBC (fun g a=>ih a) h
 | swap x y l=>exact fun h=>QDz h
 | trans _ _ ih1 ih2=>exact fun h=>ih2 (ih1 h)
theorem QA6{P Q:HP}{l:List HP}(h:∀g,P g->Q g){g:QBs}(m:QBr (P::l) g):QBr (Q::l) g:=by
 obtain⟨a,b,c,i,d,j,k⟩:=m;exact⟨a,b,h _ c,i,d,j,k⟩
theorem QAl:∀(l l':List HP) {h:QBs},QBr (l++l') h↔∃a b,QBr l a/\QBr l' b/\Dis a b/\Sub a h/\Sub b h:=by
 intro l
 induction l with
 | nil=>
  intro l' h;constructor
  ·exact fun p=>⟨fun _=>none,h,trivial,p,fun _=>.inl rfl,fun _ _ e=>(by cases e),Sub.refl _⟩
  ·rintro⟨a,b,_,hb,_,_,g⟩;exact QCn _ hb g
 | cons P l ih=>
  intro l' h;constructor
  ·rintro⟨a,b,q,k,d,j,g⟩;obtain⟨c,e,m,n,o,i,se⟩:=(ih l').1 k;refine⟨uni a c,e,⟨a,c,q,m,d.sub (Sub.refl _) i,QBV _ _,QBU (d.sub (Sub.refl _) i)⟩,n,?_,QDe j (i.trans g),se.trans g⟩;exact (QT8 (d.sub (Sub.refl _) se).symm o.symm).symm
  ·rintro⟨a,b,⟨c,e,m,n,o,i,se⟩,k,d,j,g⟩;refine⟨c,uni e b,m,(ih l').2 ⟨e,b,n,k,d.sub se (Sub.refl _),QBV _ _,QBU (d.sub se (Sub.refl _))⟩,?_,i.trans j,QDe (se.trans j) g⟩;exact QT8 o (d.sub i (Sub.refl _))
structure QBJ where
 W:World
 h0:QBs
structure Upd(B:QBJ)(h:QBs)(w:World):Prop where
 os:w.os=B.W.os
 tape:w.tape=B.W.tape
 output:w.output=B.W.output
 drawn:B.W.drawn<=w.drawn
 size:B.W.heap.size<=w.heap.size
 old:∀k,k<B.W.heap.size->B.h0 k=none->w.heap[k]? = B.W.heap[k]?/\h k=none
def Sx(B:QBJ)(As:List HP)(w:World):Prop:=∃h,QBr As h/\Sub h (mem w)/\Upd B h w
def Ent(B:QBJ)(As:List HP)(φ:WP):Prop:=∀w,Sx B As w->φ w
variable {B:QBJ}{As:List HP}
theorem Sx.perm{As':List HP}{w:World}(h:Sx B As w)(p:As.Perm As'):Sx B As' w:=by
 obtain⟨g,a,b,c⟩:=h;exact⟨g,QFx p a,b,c⟩
theorem Ent.perm{As':List HP}{φ:WP}(p:As.Perm As')(h:Ent B As' φ):Ent B As φ:=fun w a=>h w (a.perm p)
theorem Sx.drew{w:World}(h:Sx B As w):Sx B As w.drew:=by
 obtain⟨g,b,c,a⟩:=h;exact⟨g,b,c,a.os,a.tape,a.output,Nat.le_succ_of_le a.drawn,a.size,a.old⟩
theorem Sx.head{P:HP}{w:World}(h:Sx B (P::As) w):∃g,P g/\Sub g (mem w):=by
 obtain⟨g,⟨a,b,c,_,_,d,_⟩,i,_⟩:=h;exact⟨a,c,d.trans i⟩
def Blk(b:Nat)(cs:Ad):HP:=fun h=>∃e fr,h b=some (.cells cs.toArray e fr)/\∀i,i<cs.length->¬(fr.1<=i/\i<fr.2)
class Own(b:Nat)(As:List HP)(cs:outParam Ad)(upd:outParam (Ad->List HP))(rest:outParam (List HP)):Prop where
 eq:As=upd cs
 perm:∀c,(upd c).Perm (Blk b c::rest)
instance Own.head(b:Nat)(cs:Ad)(As:List HP):Own b (Blk b cs::As) cs (fun c=>Blk b c::As) As:=⟨rfl,fun _=>O6 _⟩
instance Own.tail(b:Nat)(A:HP)(As:List HP)(cs:Ad)(upd:Ad->List HP)(rest:List HP)[o:Own b As cs upd rest]:Own b (A::As) cs (fun c=>A::upd c) (A::rest):=
 ⟨by rw[<-o.eq],fun c=>((o.perm c).cons A).trans (List.Perm.swap _ _ _)⟩
theorem Blk.world{b:Nat}{cs:Ad}{h:QBs}{w:World}(hb:Blk b cs h)(c:Sub h (mem w)):∃e fr,w.heap[b]? = some (.cells cs.toArray e fr)/\∀i,i<cs.length->¬(fr.1<=i/\i<fr.2):=by
 obtain⟨e,fr,hb,a⟩:=hb;exact⟨e,fr,c _ _ hb,a⟩
theorem Sx.own{b:Nat}{cs:Ad}{upd:Ad->List HP}{rest:List HP}[o:Own b As cs upd rest]{w:World}(h:Sx B As w):Sx B (Blk b cs::rest) w:=
 h.perm (by rw[o.eq];exact o.perm cs)
theorem QAh{b:Nat}{cs:Ad}{upd:Ad->List HP}{rest:List HP}[o:Own b As cs upd rest]{off:Nat}{s:Sh}{x:s.ty}{K:s.ty->WP}(hv:cs[off]? = some (s.mk x):=by rfl)(h:Ent B As (K x)):Ent B As (QAn s ⟨b,off,none⟩ K):=by
 intro w a;obtain⟨g,c,d⟩:=(a.own (b:=b)).head;obtain⟨e,fr,hb,_⟩:=c.world d;refine⟨x,?_,h w a⟩;simp only[World.cell?,hb];simpa using hv
theorem xgS{b:Nat}{cs:List Value}{upd:List Value->List HP}{rest:List HP}[o:Own b As cs upd rest]{off:Nat}(x:Sl){K:Sl->WP}(h:Ent B As (K x))(hv:cs[off]? = some x.v:=by rfl):Ent B As (QAn .slice ⟨b,off,none⟩ K):=QAh (o:=o) (s:=.slice) (x:=x) hv h
theorem xgq{b:Nat}{cs:Ad}{upd:Ad->List HP}{rest:List HP}[o:Own b As cs upd rest]{off:Nat}{s:Sh}{x:s.ty}{K:s.ty->WP}(h:Ent B As (K x))(hv:cs[off]? = some (s.mk x):=by rfl):Ent B As (QAn s ⟨b,off,none⟩ K):=QAh (o:=o) hv h
theorem QDK{b:Nat}{cs:Ad}{upd:Ad->List HP}{rest:List HP}[o:Own b As cs upd rest]{off:Nat}{v:Value}{K:WP}(hv:cs[off]? = some v:=by rfl)(h:Ent B As K):Ent B As (QKR ⟨b,off,none⟩ v K):=by
 intro w a;obtain⟨g,c,d⟩:=(a.own (b:=b)).head;obtain⟨e,fr,hb,_⟩:=c.world d;refine⟨?_,h w a⟩;simp only[World.cell?,hb];simpa using hv
class LSet(l:Ad)(i:Nat)(v:Value)(l':outParam Ad):Prop where
 eq:l'=l.set i v
 lt:i<l.length
instance LSet.zero(a v:Value)(l:Ad):LSet (a::l) 0 v (v::l):=⟨rfl,by simp⟩
instance LSet.succ(a v:Value)(l l':Ad)(i:Nat)[h:LSet l i v l']:LSet (a::l) (i+1) v (a::l'):=⟨by rw[h.eq];rfl,by have:=h.lt;simp;omega⟩
def Szd(w w':World):Prop:=w'.heap.size=w.heap.size/\w.drawn<=w'.drawn
theorem Sx.write{b:Nat}{cs cs':Ad}{rest:List HP}{w:World}{e:TypeId}{fr:Nat×Nat}(h:Sx B (Blk b cs::rest) w){w':World}(G:w.heap[b]? = some (.cells cs.toArray e fr))
  (hn:∀k,k≠b->w'.heap[k]? = w.heap[k]?) (hb:w'.heap[b]? = some (.cells cs'.toArray e fr)) (hl:cs'.length=cs.length) (I:w'.os=w.os) (J:w'.tape=w.tape) (a:w'.output=w.output) (hsz:Szd w w') :
  Sx B (Blk b cs'::rest) w':=by
 obtain⟨g,⟨h1,l,x,y,d,q,r⟩,s,c⟩:=h;obtain⟨m,n,p,z⟩:=x;have A:=s _ _ (q _ _ p)
 have C:m=e/\n=fr:=by
  have:(Obj.cells cs.toArray m n)=.cells cs.toArray e fr:=by
   have:=A.symm.trans G;simpa using this
  simpa using this
 obtain⟨rfl,rfl⟩:=C
 have u:l b=none:=by
  rcases d b with e|e
  ·rw[p]at e;cases e
  ·exact e
 have D:∀k,k<B.W.heap.size->B.h0 k=none->k≠b:=fun k j h0 e=>by
  subst e;have:=(c.old k j h0).2;rw[q _ _ p]at this;cases this
 refine⟨uni (fun k=>if k=b then some (.cells cs'.toArray m n) else none) l,?_,?_,?_⟩
 ·refine⟨_,l,⟨m,n,by simp,fun i hi=>z i Om⟩,y,fun k=>?_,QBV _ _,QBU fun k=>?_⟩ <;>
  ·by_cases e:k=b
   ·subst e;exact .inr u
   ·exact .inl (by simp[e])
 ·refine QDe (fun k o a=>?_) (fun k o a=>?_)
  ·by_cases e:k=b
   ·subst e;simp only[O7,Wg]at a;rw[<-a];exact hb
   ·simp[e]at a
  ·have j:k≠b:=fun e=>by subst e;rw[u]at a;cases a
   show w'.heap[k]? = some o;rw[hn k j];exact s _ _ (r _ _ a)
 ·refine⟨by rw[I,c.os],by rw[J,c.tape],by rw[a,c.output],Oq c.drawn hsz.2,by rw[hsz.1];exact c.size,fun k j h0=>?_⟩;have v:=D k j h0;have:=c.old k j h0;refine⟨by rw[hn k v];exact this.1,QDH.2 ⟨by simp[v],?_⟩⟩
  cases E:l k with
  | none=>rfl
  | some o=>rw[r _ _ E]at this;cases this.2
theorem QLF(w:World)(b off:Nat)(v:Value)(k:Nat)(h:k≠b):(w.setCell ⟨b,off,none⟩ v).heap[k]? = w.heap[k]?:=by
 simp only[World.setCell];rw[Ke];simp[Ne.symm h]
theorem QLN(w:World)(b off:Nat)(v:Value){cs:Ad}{e:TypeId}{fr:Nat×Nat}(h:w.heap[b]? = some (.cells cs.toArray e fr)):(w.setCell ⟨b,off,none⟩ v).heap[b]? = some (.cells (cs.set off v).toArray e fr):=by
 simp only[World.setCell];rw[Ke];simp[h]
theorem QII{b:Nat}{cs:Ad}{rest:List HP}{off:Nat}{v:Value}{K:WP}{As':List HP}(n:As.Perm (Blk b cs::rest))(c:off<cs.length)(hv:v.oneCell'=true)
  (o:(Blk b (cs.set off v)::rest).Perm As') (h:Ent B As' K):Ent B As (QBE ⟨b,off,none⟩ v K):=by
 intro w i;have a:=i.perm n;obtain⟨g,j,l⟩:=a.head;obtain⟨e,fr,hb,m⟩:=j.world l;refine⟨⟨cs[off],by simp[World.cell?,hb,c]⟩,?_,hv,h _ ((a.write (cs':=cs.set off v) hb (fun k d=>QLF w b off v k d) (QLN w b off v hb) (by simp) rfl rfl rfl ⟨by simp,Wt _⟩).perm o)⟩;simp only[World.frozen?,hb,Uc,Wx];have:=m off c;omega
theorem QTt{b:Nat}{cs cs':Ad}{upd:Ad->List HP}{rest:List HP}[o:Own b As cs upd rest]{off:Nat}{v:Value}{K:WP}[l:LSet cs off v cs'](hv:v.oneCell'=true:=by rfl)
  (h:Ent B (upd cs') K):Ent B As (QBE ⟨b,off,none⟩ v K):=by
 refine QII (cs:=cs) (rest:=rest) (by rw[o.eq];exact o.perm cs) l.lt hv ?_ h;rw[l.eq];exact (o.perm _).symm
theorem xsq{b:Nat}{cs cs':Ad}{upd:Ad->List HP}{rest:List HP}[o:Own b As cs upd rest]{off:Nat}{v:Value}{K:WP}[l:LSet cs off v cs'](h:Ent B (upd cs') K)(hv:v.oneCell'=true:=by rfl):Ent B As (QBE ⟨b,off,none⟩ v K):=QTt (o:=o) (l:=l) hv h
theorem Sx.allocQ{w:World}(h:Sx B As w){cs:Ad}{e:TypeId}{Q:HP}(p:Q (fun k=>if k=w.heap.size then some (Obj.cells cs.toArray e) else none)):Sx B (Q::As) (w.alloc (.cells cs.toArray e)):=by
 obtain⟨g,l,i,a⟩:=h
 have m:g w.heap.size=none:=by
  cases n:g w.heap.size with
  | none=>rfl
  | some o=>have:=i _ _ n;simp[mem]at this
 have j:Dis (fun k=>if k=w.heap.size then some (Obj.cells cs.toArray e) else none) g:=fun k=>by
  by_cases he:k=w.heap.size
  ·subst he;exact .inr m
  ·exact .inl (by simp[he])
 refine⟨uni (fun k=>if k=w.heap.size then some (Obj.cells cs.toArray e) else none) g,⟨_,g,p,l,j,QBV _ _,QBU j⟩,?_,?_⟩
 ·refine QDe (fun k o b=>?_) (fun k o b=>?_)
  ·by_cases he:k=w.heap.size
   ·subst he;simp only[O7,Wg]at b;rw[<-b];show (w.heap.push _)[w.heap.size]? = _;simp
   ·simp[he]at b
  ·have h1:=i _ _ b;have c:k<w.heap.size:=(W9.1 h1).1;show (w.heap.push _)[k]? = some o;rw[Z4 c,<-h1];exact (O9 c).symm
 ·refine⟨a.os,a.tape,a.output,a.drawn,by have:=a.size;simp;omega,fun k d h0=>?_⟩;have c:k<w.heap.size:=Ug d a.size;have:=a.old k d h0;refine⟨?_,QDH.2 ⟨by simp;omega,this.2⟩⟩;show (w.heap.push _)[k]? = _;rw[Z4 c,<-this.1];exact (O9 c).symm
theorem Sx.alloc{w:World}(h:Sx B As w)(cs:Ad)(e:TypeId):Sx B (Blk w.heap.size cs::As) (w.alloc (.cells cs.toArray e)):=
 h.allocQ ⟨e,(0,0),by simp,fun i _ h=>by simp at h⟩
theorem QAL{cs:Ad}{e:TypeId}{K:Nat->WP}(h:∀b,Ent B (Blk b cs::As) (K b)):Ent B As (QCz cs e K):=fun _ a=>h _ _ (a.alloc cs e)
theorem xif{b:Bool}{X c:WP}(h1:b=true->Ent B As X)(d:b=false->Ent B As c):Ent B As (XIf b X c):=fun w a=>⟨fun e=>h1 e w a,fun e=>d e w a⟩
theorem QAB{p:Prop}[Decidable p]{X a:WP}(h1:p->Ent B As X)(b:¬p->Ent B As a):Ent B As (XIf (decide p) X a):=xif (fun e=>h1 (Ox e)) (fun e=>b (Uv e))
theorem QZK{X b:WP}(h1:Ent B As X)(c:Ent B As b):Ent B As (QZP X b):=fun w a=>⟨h1 w a,c w a⟩
theorem QCC{b:Bool}{X a:WP}(hb:b=true)(h:Ent B As X):Ent B As (XIf b X a):=xif (fun _=>h) (fun e=>by rw[hb]at e;cases e)
theorem QBH{b:Bool}{X a:WP}(hb:b=false)(h:Ent B As a):Ent B As (XIf b X a):=xif (fun e=>by rw[hb]at e;cases e) (fun _=>h)
theorem QBA{p:Prop}{K:WP}(b:p)(h:Ent B As K):Ent B As (QKJ p K):=fun w a=>⟨b,h w a⟩
theorem QAO{a:Addr}{K:Addr->WP}(h:Ent B As (K a)):Ent B As (QC3 (some a) K):=fun w b=>⟨a,rfl,h w b⟩
theorem QAP{K:WP}(h:Ent B As K):Ent B As (QD5 K):=fun _ a=>h _ a.drew
theorem QAM{ss:List Sh}{body:Cur ss->WP}{rest:Cur ss}(h:Ent B As (body rest)):Ent B As (QBW ss body rest):=h
theorem QAV{s:Sh}{body:(s.ty->WP)->WP}{rest:s.ty->WP}(J:s.ty->List HP->Prop)(h1:∀K:s.ty->WP,(∀x As',J x As'->Ent B As' (K x))->Ent B As (body K))(a:∀x As',J x As'->Ent B As' (rest x)) :
  Ent B As (QBW [s] body rest):=h1 rest a
theorem QBh{body:WP->WP}{rest:WP}(J:List HP->Prop)(h1:∀K:WP,(∀As',J As'->Ent B As' K)->Ent B As (body K))(a:∀As',J As'->Ent B As' rest) :
  Ent B As (QBW [] body rest):=h1 rest a
theorem QBa{s:Sh}{body:(s.ty->WP)->s.ty->WP}{c:s.ty}(b:Nat->s.ty->List HP->Prop)(n0:Nat)(h0:b n0 c As)
  (round:∀n x As' (K:s.ty->WP),b n x As'->(∀m y a,m<n->b m y a->Ent B a (K y))->Ent B As' (body K x)):Ent B As (QFl [s] body c):=by
 intro w h;refine⟨n0+1,?_⟩
 have key:∀n x As',b n x As'->∀k,n<k->Ent B As' (Cur.app [s] (QEs [s] body k) (x,())):=by
  intro n
  induction n using Nat.strongRecOn with
  | _ n ih=>
   intro x As' hI k i
   cases k with
   | zero=>omega
   | succ k=>exact round n x As' (QEs [s] body k) hI fun m y a d g=>ih m d y a g k Om
 exact key n0 c As h0 (n0+1) Om w h
theorem QBt{s t:Sh}{body:(s.ty->t.ty->WP)->s.ty->t.ty->WP}{g:s.ty}{h:t.ty}(d:Nat->s.ty->t.ty->List HP->Prop)(n0:Nat)(h0:d n0 g h As)
  (round:∀n x y As' (K:s.ty->t.ty->WP),d n x y As'->(∀m a b c,m<n->d m a b c->Ent B c (K a b))->Ent B As' (body K x y)):Ent B As (QFl [s,t] body g h):=by
 intro w l;refine⟨n0+1,?_⟩
 have key:∀n x y As',d n x y As'->∀k,n<k->Ent B As' (Cur.app [s,t] (QEs [s,t] body k) (x,y,())):=by
  intro n
  induction n using Nat.strongRecOn with
  | _ n ih=>
   intro x y As' hI k o
   cases k with
   | zero=>omega
   | succ k=>exact round n x y As' (QEs [s,t] body k) hI fun m a b c i j=>ih m i a b c j k Om
 exact key n0 g h As h0 (n0+1) Om w l
theorem Qgy{s t u:Sh}{body:(s.ty->t.ty->u.ty->WP)->s.ty->t.ty->u.ty->WP}{h:s.ty}{i:t.ty}{z0:u.ty}(g:Nat->s.ty->t.ty->u.ty->List HP->Prop)(n0:Nat)(h0:g n0 h i z0 As)
  (round:∀n x y z As' (K:s.ty->t.ty->u.ty->WP),g n x y z As'->(∀m a b c d,m<n->g m a b c d->Ent B d (K a b c))->Ent B As' (body K x y z)):Ent B As (QFl [s,t,u] body h i z0):=by
 intro w o;refine⟨n0+1,?_⟩
 have key:∀n x y z As',g n x y z As'->∀k,n<k->Ent B As' (Cur.app [s,t,u] (QEs [s,t,u] body k) (x,y,z,())):=by
  intro n
  induction n using Nat.strongRecOn with
  | _ n ih=>
   intro x y z As' hI k p
   cases k with
   | zero=>omega
   | succ k=>exact round n x y z As' (QEs [s,t,u] body k) hI fun m a b c d j l=>ih m j a b c d l k Om
 exact key n0 h i z0 As h0 (n0+1) Om w o
def frz(w:World)(h:QBs):QBs:=fun k=>match h k with
 | some _=>none
 | none=>w.heap[k]?
def Ct(P:Program)(f:FuncId)(args:Ad)(rs:Rs)(ss:List Sh)(pre:List HP)(rd:HP)(post:Tup ss->List HP->Prop):Prop:=
 ∀(w:World) (h:QBs),QBr pre h->Sub h (mem w)->rd (frz w h)->Calls P f args.toArray w fun e w'=>∃t Bs,e=.returned (rs.mk (Tup.vals ss t))/\post t Bs/\Sx ⟨w,h⟩ Bs w'
def Ret(B:QBJ){ss:List Sh}(post:Tup ss->List HP->Prop)(t:Tup ss):WP:=fun w=>∃Bs,post t Bs/\Sx B Bs w
theorem QAD{ss:List Sh}{post:Tup ss->List HP->Prop}{t:Tup ss}(h:post t As):Ent B As (Ret B post t):=fun _ a=>⟨As,h,a⟩
theorem Sx.start{w:World}{h:QBs}{pre:List HP}(a:QBr pre h)(b:Sub h (mem w)):Sx ⟨w,h⟩ pre w:=
 ⟨h,a,b,rfl,rfl,rfl,Wt _,Wt _,fun _ _ e=>⟨rfl,e⟩⟩
theorem QAm{P:Program}{f:FuncId}{args:Ad}{rs:Rs}{ss:List Sh}{pre:List HP}{rd:HP}{post:Tup ss->List HP->Prop}{φ:Cur ss->WP}(c:∀{K:Cur ss}{w:World},φ K w->QAX P f args rs ss K w)
  (h:∀B:QBJ,rd (frz B.W B.h0)->Ent B pre (φ (Cur.ofT ss (Ret B post)))):Ct P f args rs ss pre rd post:=by
 intro w g b d i;have:=c (h ⟨w,g⟩ i w (Sx.start b d));unfold QAX at this;refine this.mono ?_;rintro e w' ⟨t,he,a⟩;rw[Cur.app_ofT]at a;obtain⟨Bs,j,hx⟩:=a;exact⟨t,Bs,he,j,hx⟩
theorem Qh1{P:Program}{f:FuncId}{args:Ad}{rs:Rs}{pre:List HP}{rd:HP}{post:Tup []->List HP->Prop}{φ:WP->WP}(c:∀{K:WP}{w:World},φ K w->QAX P f args rs [] K w)
  (h:∀B:QBJ,rd (frz B.W B.h0)->Ent B pre (φ (Ret B post ()))):Ct P f args rs [] pre rd post:=QAm (ss:=[]) c h
theorem QG9{P:Program}{f:FuncId}{args:Ad}{rs:Rs}{s:Sh}{pre:List HP}{rd:HP}{post:Tup [s]->List HP->Prop}{φ:(s.ty->WP)->WP}(c:∀{K:s.ty->WP}{w:World},φ K w->QAX P f args rs [s] K w)
  (h:∀B:QBJ,rd (frz B.W B.h0)->Ent B pre (φ fun x=>Ret B post (x,()))):Ct P f args rs [s] pre rd post:=QAm (ss:=[s]) c h
theorem Qhp{P:Program}{f:FuncId}{args:Ad}{rs:Rs}{s t:Sh}{pre:List HP}{rd:HP}{post:Tup [s,t]->List HP->Prop}{φ:(s.ty->t.ty->WP)->WP}(c:∀{K:s.ty->t.ty->WP}{w:World},φ K w->QAX P f args rs [s,t] K w)
  (h:∀B:QBJ,rd (frz B.W B.h0)->Ent B pre (φ fun x y=>Ret B post (x,y,()))):Ct P f args rs [s,t] pre rd post:=QAm (ss:=[s,t]) c h
theorem Qj8{P:Program}{f:FuncId}{args:Ad}{rs:Rs}{s t u:Sh}{pre:List HP}{rd:HP}{post:Tup [s,t,u]->List HP->Prop}{φ:(s.ty->t.ty->u.ty->WP)->WP}(c:∀{K:s.ty->t.ty->u.ty->WP}{w:World},φ K w->QAX P f args rs [s,t,u] K w)
  (h:∀B:QBJ,rd (frz B.W B.h0)->Ent B pre (φ fun x y z=>Ret B post (x,y,z,()))):Ct P f args rs [s,t,u] pre rd post:=QAm (ss:=[s,t,u]) c h
def Rds(B:QBJ)(F:List HP)(rd:HP):Prop:=∀(w:World) (a b:QBs),QBr F b->Sub b (mem w)->Dis a b->Sub a (mem w)->Upd B (uni a b) w->rd (frz w a)
theorem Upd.sub{h g:QBs}{w:World}(a:Upd B h w)(s:Sub g h):Upd B g w:=
 ⟨a.os,a.tape,a.output,a.drawn,a.size,fun k b h0=>⟨(a.old k b h0).1,by
  cases c:g k with
  | none=>rfl
  | some o=>have:=(a.old k b h0).2;rw[s k o c]at this;cases this⟩⟩
theorem Qfw{P:Program}{f:FuncId}{args:Ad}{rs:Rs}{ss:List Sh}{pre F:List HP}{rd:HP}{post:Tup ss->List HP->Prop}{K:Cur ss}(G:Ct P f args rs ss pre rd post)(p:As.Perm (pre++F))(I:Rds B F rd)
  (h:∀t Bs,post t Bs->Ent B (Bs++F) (Cur.app ss K t)):Ent B As (QAX P f args rs ss K):=by
 intro w x;obtain⟨g,y,l,i⟩:=x.perm p;obtain⟨a,b,z,hb,q,m,n⟩:=(QAl pre F).1 y;have r:Upd B (uni a b) w:=i.sub (QDe m n);unfold QAX;refine (G w a z (m.trans l) (I w a b hb (n.trans l) q (m.trans l) r)).mono ?_;rintro e w' ⟨t,Bs,he,A,c,hc,C,j⟩;refine⟨t,he,h t Bs A w' ⟨uni c b,(QAl Bs F).2 ⟨c,b,hc,hb,?_,QBV _ _,?_⟩,?_,?_⟩⟩
 all_goals
  have key:∀k o,b k=some o->w'.heap[k]? = some o/\c k=none:=by
   intro k o d;have h1:w.heap[k]? = some o:=(n.trans l) k o d;have D:k<w.heap.size:=(W9.1 h1).1
   have E:a k=none:=by
    rcases q k with e|e
    ·exact e
    ·rw[d]at e;cases e
   have:=j.old k D E;exact⟨by rw[this.1];exact h1,this.2⟩
  have s:Dis c b:=fun k=>by
   cases d:b k with
   | none=>exact .inr rfl
   | some o=>exact .inl (key k o d).2
 ·exact s
 ·exact QBU s
 ·exact QDe C fun k o d=>(key k o d).1
 ·refine⟨by rw[j.os,i.os],by rw[j.tape,i.tape],by rw[j.output,i.output],Oq i.drawn j.drawn,Oq i.size j.size,fun k d h0=>?_⟩;have h1:=r.old k d h0;have u:=QDH.1 h1.2;have v:=j.old k (Ug d i.size) u.1;exact⟨by rw[v.1];exact h1.1,QDH.2 ⟨v.2,u.2⟩⟩
def emp:HP:=fun _=>True
class Pick(i:Nat)(As:List HP)(P:outParam HP)(F:outParam (List HP)):Prop where
 perm:As.Perm (P::F)
instance Pick.zero(A:HP)(As:List HP):Pick 0 (A::As) A As:=⟨O6 _⟩
instance Pick.succ(i:Nat)(A P:HP)(As F:List HP)[h:Pick i As P F]:Pick (i+1) (A::As) P (A::F):=⟨(h.perm.cons A).trans (List.Perm.swap _ _ _)⟩
theorem QA2{F:List HP}{φ:WP}(h:Ent B F φ):Ent B ([]++F) φ:=h
theorem QAz{A:HP}{F:List HP}{φ:WP}(h:Ent B (A::F) φ):Ent B ([A]++F) φ:=h
theorem QBK{A a:HP}{F:List HP}{φ:WP}(h:Ent B (A::a::F) φ):Ent B ([A,a]++F) φ:=h
theorem QLn{A a b:HP}{F:List HP}{φ:WP}(h:Ent B (A::a::b::F) φ):Ent B ([A,a,b]++F) φ:=h
variable {P:Program}{f:FuncId}{args:Ad}{rs:Rs}{ss:List Sh}{rd:HP}{post:Tup ss->List HP->Prop}{K:Cur ss}
theorem QAS(a:Ct P f args rs ss [] rd post)(b:Rds B As rd)(h:∀t Bs,post t Bs->Ent B (Bs++As) (Cur.app ss K t)):Ent B As (QAX P f args rs ss K):=
 Qfw a (O6 _) b h
theorem Qg1(i:Nat){P1:HP}{F:List HP}[p:Pick i As P1 F](a:Ct P f args rs ss [P1] rd post)(b:Rds B F rd)(h:∀t Bs,post t Bs->Ent B (Bs++F) (Cur.app ss K t)):Ent B As (QAX P f args rs ss K):=
 Qfw a p.perm b h
theorem Qj7(i:Nat){P1:HP}{F:List HP}[p:Pick i As P1 F]{Bs:List HP}{φ:WP}(h:∀g,P1 g->QBr Bs g)(k:Ent B (Bs++F) φ):Ent B As φ:=by
 refine Ent.perm p.perm ?_;intro w c;obtain⟨g,⟨a,b,j,l,d,m,n⟩,o,q⟩:=c;exact k w ⟨g,(QAl Bs F).2 ⟨a,b,h a j,l,d,m,n⟩,o,q⟩
theorem QEZ(i:Nat){P1:HP}{F:List HP}[p:Pick i As P1 F]{φ:WP}(R:List HP->Prop)(h:∀g,P1 g->∃Bs,R Bs/\QBr Bs g)(k:∀Bs,R Bs->Ent B (Bs++F) φ):Ent B As φ:=by
 refine Ent.perm p.perm ?_;intro w c;obtain⟨g,⟨a,b,j,l,d,m,n⟩,o,q⟩:=c;obtain⟨Bs,r,s⟩:=h a j;exact k Bs r w ⟨g,(QAl Bs F).2 ⟨a,b,s,l,d,m,n⟩,o,q⟩
theorem QId{As':List HP}{φ:WP}(h:∀g,QBr As g->QBr As' g)(k:Ent B As' φ):Ent B As φ:=by
 rintro w ⟨g,a,b,c⟩;exact k w ⟨g,h g a,b,c⟩
end Go.Cf
namespace Go.Cf
open Go
structure Enc(α:Type) where
 f:α->Ad
 sz:Nat
 len:∀x,(f x).length=sz
 one:∀x,∀v∈f x,v.oneCell'=true
 pos:0<sz
 zero:α
def QAi{α:Type}(E:Enc α)(xs:List α):Ad:=xs.flatMap E.f
theorem QAI{α:Type}(E:Enc α)(xs:List α):(QAi E xs).length=xs.length*E.sz:=by
 induction xs with
 | nil=>simp[QAi]
 | cons x xs ih=>
  have:QAi E (x::xs)=E.f x++QAi E xs:=by simp[QAi]
  rw[this,Wd,E.len,ih,Wl,Ka];omega
theorem QAU{α:Type}(E:Enc α)(xs ys:List α):QAi E (xs++ys)=QAi E xs++QAi E ys:=by simp[QAi]
theorem QWo{α:Type}(E:Enc α):∀(xs:List α) (i j:Nat) (x:α),xs[i]? = some x->j<E.sz->(QAi E xs)[i*E.sz+j]? = (E.f x)[j]?:=by
 intro xs
 induction xs with
 | nil=>intro i j x h;simp at h
 | cons y xs ih=>
  intro i j x h hj
  have e:QAi E (y::xs)=E.f y++QAi E xs:=by simp[QAi]
  rw[e]
  cases i with
  | zero=>
   simp only[Ov,Wg]at h;subst h;rw[Nat.zero_mul,Z9,Wj (by rw[E.len];exact hj)]
  | succ i=>
   rw[Wr (by rw[E.len,Ka];omega),E.len];rw[show (i+1)*E.sz+j - E.sz=i*E.sz+j by rw[Ka];omega];exact ih i j x (Si h) hj
theorem Qcy{α:Type}(E:Enc α):∀(xs:List α) (i j:Nat) (x a:α) (v:Value),xs[i]? = some x->j<E.sz->(E.f x).set j v=E.f a->(QAi E xs).set (i*E.sz+j) v=QAi E (xs.set i a):=by
 intro xs
 induction xs with
 | nil=>intro i j x a v h;simp at h
 | cons y xs ih=>
  intro i j x a v h hj hx
  have e:∀y,QAi E (y::xs)=E.f y++QAi E xs:=fun y=>by simp[QAi]
  cases i with
  | zero=>
   simp only[Ov,Wg]at h;subst h;rw[Nat.zero_mul,Z9,e,List.set_append_left _ _ (by rw[E.len];exact hj),hx];simp[QAi]
  | succ i=>
   rw[e,U5 _ _ (by rw[E.len,Ka];omega),E.len];rw[show (i+1)*E.sz+j - E.sz=i*E.sz+j by rw[Ka];omega];rw[ih i j x a v (Si h) hj hx];simp[QAi]
theorem QJk{α:Type}(E:Enc α)(xs:List α):∀v∈QAi E xs,v.oneCell'=true:=by
 intro v hv;simp only[QAi,List.mem_flatMap]at hv;obtain⟨x,_,hx⟩:=hv;exact E.one x v hx
def RArr(s:Sl)(sz:Nat)(cs:Ad):HP:=fun h=>cs.length=s.n*sz /\
 (0<s.n->∃b o pre post e fr,s.p=some ⟨b,o,none⟩/\h b=some (.cells (pre++cs++post).toArray e fr)/\pre.length=o)
theorem RArr.mono{s:Sl}{sz:Nat}{cs:Ad}{h g:QBs}(d:RArr s sz cs h)(i:Sub h g):RArr s sz cs g:=by
 obtain⟨hl,hc⟩:=d;refine⟨hl,fun hn=>?_⟩;obtain⟨b,o,pre,post,e,fr,a,hb,c⟩:=hc hn;exact⟨b,o,pre,post,e,fr,a,i _ _ hb,c⟩
variable {α:Type}
def RAr(E:Enc α)(s:Sl)(xs:List α):HP:=fun h=>xs.length=s.n/\RArr s E.sz (QAi E xs) h
def Ars(E:Enc α)(s:Sl)(xs zs:List α):HP:=fun h=>xs.length=s.n/\xs.length+zs.length=s.c /\
 ((s.p=none/\s.c=0)\/∃b o pre post e fr,s.p=some ⟨b,o,none⟩/\h b=some (.cells (pre++QAi E (xs++zs)++post).toArray e fr)/\pre.length=o /\
  (∀i,i<(pre++QAi E (xs++zs)++post).length->¬(fr.1<=i/\i<fr.2))/\s.c<=9223372036854775807)
def Ar(E:Enc α)(s:Sl)(xs:List α):HP:=fun h=>∃zs,Ars E s xs zs h
theorem Ars.read{E:Enc α}{s:Sl}{xs zs:List α}{h:QBs}(d:Ars E s xs zs h):RAr E s xs h:=by
 obtain⟨hn,g,hc⟩:=d;refine⟨hn,by rw[QAI,hn],fun h0=>?_⟩;rcases hc with⟨_,h⟩|⟨b,o,pre,post,e,fr,a,hb,c,_⟩
 ·omega
 ·exact⟨b,o,pre,QAi E zs++post,e,fr,a,by rw[hb,QAU];simp[Wk],c⟩
theorem Ar.read{E:Enc α}{s:Sl}{xs:List α}{h:QBs}(a:Ar E s xs h):RAr E s xs h:=by
 obtain⟨zs,a⟩:=a;exact a.read
theorem Ars.shift{E:Enc α}{p:Ac}{n d c:Nat}{xs zs a b:List α}{h:QBs}(j:Ars E ⟨p,n,c⟩ xs zs h)(hx:xs++zs=a++b)(hn:a.length=d):Ars E ⟨p,d,c⟩ a b h:=by
 obtain⟨h1,g,i⟩:=j
 have hl:xs.length+zs.length=a.length+b.length:=by simpa using Uh List.length hx
 refine⟨hn,by rw[<-hl];exact g,?_⟩;rw[<-hx];exact i
theorem RAr.mono{E:Enc α}{s:Sl}{xs:List α}{h g:QBs}(a:RAr E s xs h)(b:Sub h g):RAr E s xs g:=⟨a.1,a.2.mono b⟩
variable {B:QBJ}{As:List HP}
theorem Sx.tail{A:HP}{w:World}(h:Sx B (A::As) w):Sx B As w:=by
 obtain⟨g,⟨a,b,_,d,_,_,c⟩,i,j⟩:=h;exact⟨b,d,c.trans i,j.sub c⟩
theorem Sx.frz{w:World}(h:Sx B As w):Sub (frz B.W B.h0) (mem w):=by
 obtain⟨g,_,_,b⟩:=h;intro k o a;unfold Cf.frz at a
 cases hb:B.h0 k with
 | some x=>rw[hb]at a;cases a
 | none=>
  rw[hb]at a;have c:k<B.W.heap.size:=(W9.1 a).1;show w.heap[k]? = some o;rw[(b.old k c hb).1];exact a
class Fro(B:QBJ)(s:Sl){α:outParam Type}(E:outParam (Enc α))(xs:outParam (List α)):Prop where
 rd:RAr E s xs (frz B.W B.h0)
class RdA(B:QBJ)(As:List HP)(s:Sl){α:outParam Type}(E:outParam (Enc α))(xs:outParam (List α)):Prop where
 rd:∀w,Sx B As w->RAr E s xs (mem w)
instance (priority:=low) RdA.fro(B:QBJ)(As:List HP)(s:Sl)(E:Enc α)(xs:List α)[f:Fro B s E xs]:RdA B As s E xs:=⟨fun _ h=>f.rd.mono h.frz⟩
instance RdA.tail(B:QBJ)(A:HP)(As:List HP)(s:Sl)(E:Enc α)(xs:List α)[r:RdA B As s E xs]:RdA B (A::As) s E xs:=⟨fun w h=>r.rd w h.tail⟩
instance (priority:=high) RdA.head(B:QBJ)(As:List HP)(s:Sl)(E:Enc α)(xs:List α):RdA B (Ar E s xs::As) s E xs:=⟨fun w h=>by
 obtain⟨g,a,b⟩:=h.head
 exact a.read.mono b⟩
class OwnA(s:Sl)(As:List HP){α:outParam Type}(E:outParam (Enc α))(xs:outParam (List α))(upd:outParam (Sl->List α->List HP))(rest:outParam (List HP)):Prop where
 eq:As=upd s xs
 perm:∀t c,(upd t c).Perm (Ar E t c::rest)
instance OwnA.head(s:Sl)(E:Enc α)(xs:List α)(As:List HP):OwnA s (Ar E s xs::As) E xs (fun t c=>Ar E t c::As) As:=⟨rfl,fun _ _=>O6 _⟩
instance OwnA.tail(s:Sl)(A:HP)(As:List HP)(E:Enc α)(xs:List α)(upd:Sl->List α->List HP)(rest:List HP)[o:OwnA s As E xs upd rest]:OwnA s (A::As) E xs (fun t c=>A::upd t c) (A::rest):=
 ⟨by rw[<-o.eq],fun t c=>((o.perm t c).cons A).trans (List.Perm.swap _ _ _)⟩
theorem OwnA.start{s:Sl}{E:Enc α}{xs:List α}{upd:Sl->List α->List HP}{rest:List HP}(o:OwnA s As E xs upd rest):As.Perm (Ar E s xs::rest):=by rw[o.eq];exact o.perm s xs
def Sl.at(s:Sl)(sz i:Nat):Addr:=(s.p.getD ⟨0,0,none⟩).add (i*sz)
theorem QCV(b o n:Nat):(⟨b,o,none⟩:Addr).add n=⟨b,o+n,none⟩:=by
 unfold Addr.add;split
 ·rename_i h;subst h;rfl
 ·rfl
theorem RAr.cell{E:Enc α}{s:Sl}{xs:List α}{w:World}(h:RAr E s xs (mem w)){i j:Nat}{x:α}(hx:xs[i]? = some x)(hj:j<E.sz) :
  ∃b o,s.p=some ⟨b,o,none⟩/\(s.at E.sz i).add j=⟨b,o+(i*E.sz+j),none⟩/\w.cell? ⟨b,o+(i*E.sz+j),none⟩=(E.f x)[j]?:=by
 obtain⟨hl,_,hc⟩:=h;have hi:i<xs.length:=(Wc.1 hx).1;obtain⟨b,o,pre,post,e,fr,a,hb,c⟩:=hc Om;refine⟨b,o,a,?_,?_⟩
 ·simp only[Sl.at,a,Uy,QCV,Ln]
 ·have d:w.heap[b]? = some (.cells (pre++QAi E xs++post).toArray e fr):=hb;have g:=QAI E xs
  have k:i*E.sz+j<(QAi E xs).length:=by
   rw[g];have:(i+1)*E.sz<=xs.length*E.sz:=Ux _ hi;rw[Ka]at this;omega
  simp only[World.cell?,d];simp only[Z5,Wi,Oa,Zj];rw[Wk,Wr Om,c,Ku,Wj k];exact QWo E xs i j x hx hj
theorem Qb7{E:Enc α}{xs:List α}{s:Sl}[r:RdA B As s E xs]{i:Int}{sz:Nat}{K:Addr->WP}(_hsz:E.sz=sz:=by rfl)(h0:0<=i)(h1:i<xs.length)
  (h:∀x,xs[i.toNat]? = some x->Ent B As (K (s.at sz i.toNat))):Ent B As (QLG s.p s.n i sz K):=by
 intro w a;have d:=r.rd w a
 have g:i.toNat<xs.length:=Om
 obtain⟨b,o,c,_,_⟩:=d.cell (i:=i.toNat) (j:=0) (Wa g) E.pos;refine⟨_,c,h0,by rw[<-d.1];exact h1,?_⟩;have:=h _ (Wa g) w a;simp only[Sl.at,c,Uy]at this;exact this
theorem QAH{E:Enc α}{xs:List α}{s:Sl}[r:RdA B As s E xs]{k:Nat}{sz:Nat}{K:Addr->WP}(hsz:E.sz=sz:=by rfl)(h1:k<xs.length)
  (h:∀x,xs[k]? = some x->Ent B As (K (s.at sz k))):Ent B As (QLG s.p s.n (k:Int) sz K):=
 Qb7 hsz Om Om (Si h)
theorem QAN{E:Enc α}{xs:List α}{s:Sl}[r:RdA B As s E xs]{i sz:Nat}{x:α}{sh:Sh}{v:sh.ty}{K:sh.ty->WP}(hx:xs[i]? = some x)(hsz:E.sz=sz:=by rfl)(hv:(E.f x)[0]? = some (sh.mk v):=by rfl)
  (h:Ent B As (K v)):Ent B As (QAn sh (s.at sz i) K):=by
 intro w a;subst hsz;obtain⟨b,o,_,c,hc⟩:=(r.rd w a).cell hx E.pos;refine⟨v,?_,h w a⟩
 have e:(s.at E.sz i).add 0=s.at E.sz i:=by simp[Addr.add]
 rw[<-e,c,hc,hv]
theorem QAa{E:Enc α}{xs:List α}{s:Sl}[r:RdA B As s E xs]{i j sz:Nat}{x:α}{sh:Sh}{v:sh.ty}{K:sh.ty->WP}(hx:xs[i]? = some x)(hsz:E.sz=sz:=by rfl)(hv:(E.f x)[j]? = some (sh.mk v):=by rfl)
  (h:Ent B As (K v)):Ent B As (QAn sh ((s.at sz i).add j) K):=by
 intro w a;subst hsz
 have hj:j<E.sz:=by
  rw[<-E.len x];exact (Wc.1 hv).1
 obtain⟨b,o,_,c,hc⟩:=(r.rd w a).cell hx hj;exact⟨v,by rw[c,hc,hv],h w a⟩
theorem QOC{E:Enc α}{xs:List α}{s:Sl}[r:RdA B As s E xs]{i sz:Nat}{x:α}{v:Value}{K:WP}(hx:xs[i]? = some x)(hsz:E.sz=sz:=by rfl)(hv:(E.f x)[0]? = some v:=by rfl)
  (h:Ent B As K):Ent B As (QKR (s.at sz i) v K):=by
 intro w a;subst hsz;obtain⟨b,o,_,c,hc⟩:=(r.rd w a).cell hx E.pos
 have e:(s.at E.sz i).add 0=s.at E.sz i:=by simp[Addr.add]
 exact⟨by rw[<-e,c,hc,hv],h w a⟩
theorem QWB{E:Enc α}{xs:List α}{s:Sl}[r:RdA B As s E xs]{i j sz:Nat}{x:α}{v:Value}{K:WP}(hx:xs[i]? = some x)(hsz:E.sz=sz:=by rfl)(hv:(E.f x)[j]? = some v:=by rfl)
  (h:Ent B As K):Ent B As (QKR ((s.at sz i).add j) v K):=by
 intro w a;subst hsz
 have hj:j<E.sz:=by
  rw[<-E.len x];exact (Wc.1 hv).1
 obtain⟨b,o,_,c,hc⟩:=(r.rd w a).cell hx hj;exact⟨by rw[c,hc,hv],h w a⟩
theorem Ars.cap_le{E:Enc α}{s:Sl}{xs zs:List α}{h:QBs}(b:Ars E s xs zs h):s.c<=9223372036854775807:=by
 rcases b.2.2 with⟨_,h0⟩|⟨_,_,_,_,_,_,_,_,_,_,a⟩
 ·omega
 ·exact a
theorem Ars.blk{E:Enc α}{s:Sl}{xs zs:List α}{h:QBs}(g:Ars E s xs zs h){b o:Nat}(c:s.p=some ⟨b,o,none⟩) :
  ∃pre post,Blk b (pre++QAi E (xs++zs)++post) h/\pre.length=o:=by
 obtain⟨_,_,hc⟩:=g;rcases hc with⟨h0,_⟩|⟨i,o',pre,post,e,fr,a,hb,d,hfr,_⟩
 ·rw[c]at h0;cases h0
 ·rw[c]at a;cases a;exact⟨pre,post,⟨e,fr,hb,hfr⟩,d⟩
theorem Ars.of_blk{E:Enc α}{s:Sl}{xs zs:List α}{h:QBs}{b o:Nat}{pre post:Ad}(hb:Blk b (pre++QAi E (xs++zs)++post) h)(a:s.p=some ⟨b,o,none⟩)(d:pre.length=o)(hn:xs.length=s.n)(hc:xs.length+zs.length=s.c)(g:s.c<=9223372036854775807):Ars E s xs zs h:=by
 obtain⟨e,fr,hb,hfr⟩:=hb;exact⟨hn,hc,.inr ⟨b,o,pre,post,e,fr,a,hb,d,hfr,g⟩⟩
theorem QDB{E:Enc α}{xs:List α}{s:Sl}{upd:Sl->List α->List HP}{rest:List HP}[o:OwnA s As E xs upd rest]{i j sz:Nat}{x:α}(a:α){v:Value}{K:WP}(hx:xs[i]? = some x)(hsz:E.sz=sz:=by rfl)(hj:j<E.sz)
  (hv:(E.f x).set j v=E.f a) (h:Ent B (upd s (xs.set i a)) K):Ent B As (QBE ((s.at sz i).add j) v K):=by
 subst hsz;intro w y;have J:=y.perm o.start;obtain⟨g,⟨h1,z,⟨zs,c⟩,A,d,k,C⟩,l,D⟩:=J;have L:=(c.read).mono (k.trans l);obtain⟨b,o',m,G,_⟩:=L.cell hx hj;obtain⟨pre,post,I,n⟩:=c.blk m;rw[G];have hi:i<xs.length:=(Wc.1 hx).1
 have M:(xs++zs)[i]? = some x:=by rw[Wj hi];exact hx
 have p:i*E.sz+j<(QAi E (xs++zs)).length:=by
  rw[QAI];have:(i+1)*E.sz<=(xs++zs).length*E.sz:=Ux _ (by simp;omega);rw[Ka]at this;omega
 have O:v.oneCell'=true:=by
  refine E.one a v ?_;rw[<-hv];exact List.mem_set (by rw[E.len];exact hj) v
 have Q:(pre++QAi E (xs++zs)++post).set (o'+(i*E.sz+j)) v=pre++QAi E (xs.set i a++zs)++post:=by
  rw[Wk,U5 _ _ Om,n,Ku,List.set_append_left _ _ p,Qcy E _ i j x a v M hj hv,List.set_append_left _ _ hi,Wk]
 refine QII (B:=B) (As:=Blk b (pre++QAi E (xs++zs)++post)::rest) (b:=b) (cs:=pre++QAi E (xs++zs)++post) (rest:=rest) (off:=o'+(i*E.sz+j)) (v:=v) (K:=K) (As':=Blk b (pre++QAi E (xs.set i a++zs)++post)::rest) (O6 _)
  (by simp only[Wd]at p|-;omega) O (by rw[Q]) ?_ w ⟨g,⟨h1,z,I,A,d,k,C⟩,l,D⟩
 refine QId (As':=upd s (xs.set i a)) (fun R r=>?_) h;refine QFx (o.perm s (xs.set i a)).symm (QA6 (fun q u=>⟨zs,?_⟩) r);exact Ars.of_blk u m n (Si c.1) (Si c.2.1) c.cap_le
theorem QIJ{E:Enc α}{xs:List α}{s:Sl}{upd:Sl->List α->List HP}{rest:List HP}[o:OwnA s As E xs upd rest]{i sz:Nat}{x:α}(a:α){v:Value}{K:WP}(hx:xs[i]? = some x)(hsz:E.sz=sz:=by rfl)
  (hv:(E.f x).set 0 v=E.f a) (h:Ent B (upd s (xs.set i a)) K):Ent B As (QBE (s.at sz i) v K):=by
 have e:(s.at sz i).add 0=s.at sz i:=by simp[Addr.add]
 rw[<-e];exact QDB a hx hsz E.pos hv h
theorem QAf(E:Enc α){φ:WP}(h:Ent B (Ar E ⟨none,0,0⟩ []::As) φ):Ent B As φ:=by
 rintro w ⟨g,a,b,c⟩;exact h w ⟨g,⟨fun _=>none,g,⟨[],rfl,rfl,.inl ⟨rfl,rfl⟩⟩,a,fun _=>.inl rfl,fun _ _ e=>(by cases e),Sub.refl _⟩,b,c⟩
theorem QAp{E:Enc α}{b:Nat}{cs:Ad}(xs:List α)(n:Nat)(hn:xs.length=n)(a:QAi E xs=cs){h:QBs}(hb:Blk b cs h)(c:n<=9223372036854775807:=by decide):Ars E ⟨some ⟨b,0,none⟩,n,n⟩ xs [] h:=by
 subst a;exact Ars.of_blk (pre:=[]) (post:=[]) (Si hb) rfl rfl hn (Si hn) c
end Go.Cf
namespace Go.Cf
open Go
def QI5(P:Program)(t e:TypeId)(sz a:Nat):Bool:=
 match P.underlying t,P.info? e with
 | some (.slice e'),some i=>Nat.beq e' e&&Nat.beq i.size sz&&Nat.beq i.bytes a&&Nat.blt 0 a &&
   (match i.zero with|some z=>Nat.beq z.cells.toList.length sz|none=>false)
 | _,_=>false
class QJH(P:Program)(t:TypeId)(e sz by_:outParam Nat)(z:outParam Ad):Prop where
 ok:QI5 P t e sz by_=true
 zero:QFR P e=some z
theorem QB4{P:Program}{t e:TypeId}{sz d:Nat}(h:QI5 P t e sz d=true) :
  ∃i z,P.underlying t=some (.slice e)/\P.info? e=some i/\i.size=sz/\i.bytes=d/\0<d/\i.zero=some z/\z.cells.size=sz:=by
 unfold QI5 at h
 cases b:P.underlying t with
 | none=>rw[b]at h;cases h
 | some dt=>
 cases hi:P.info? e with
 | none=>rw[b,hi]at h;cases dt<;>cases h
 | some i=>
 rw[b,hi]at h;cases dt<;>simp only[Wi]at h
 rename_i l
 simp only[Wf]at h;obtain⟨⟨⟨⟨h1,g⟩,j⟩,k⟩,a⟩:=h;obtain rfl:=Wo h1
 cases c:i.zero with
 | none=>rw[c]at a;cases a
 | some z=>
  rw[c]at a;exact⟨i,z,rfl,rfl,Wo g,Wo j,by simpa [K6]using k,c,by simpa using Wo a⟩
theorem QCp{P:Program}(b:Nat)(e:TypeId)(fr:Nat×Nat):∀(vs:Ad) (o i:Nat) (l:Ad) (w:World),w.heap[b]? = some (.cells l.toArray e fr)->o+i+vs.length<=l.length ->
  (∀k,k<l.length->¬(fr.1<=k/\k<fr.2))->(∀v∈vs,v.oneCell'=true) ->
  ∃w',(storeCells ⟨b,o,none⟩ vs i).run P w=.ok () w'/\w'.heap[b]? = some (.cells (QE6 vs (o+i) l).toArray e fr)/\(∀k,k≠b->w'.heap[k]? = w.heap[k]?)/\w'.os=w.os/\w'.tape=w.tape/\w'.output=w.output/\Szd w w':=by
 intro vs
 induction vs with
 | nil=>intro o i l w hb _ _ _;exact⟨w,rfl,hb,fun _ _=>rfl,rfl,rfl,rfl,rfl,Wt _⟩
 | cons v vs ih=>
  intro o i l w hb h hfr c;simp only[Wl]at h;have r:=QLN w b (o+i) v hb;obtain⟨w',h1,j,m,n,p,q,d⟩:=ih o (i+1) (l.set (o+i) v) (w.setCell ⟨b,o+i,none⟩ v) r (by simp;omega) (Si hfr) (fun u g=>c u (Wz _ g));refine⟨w',?_,by rw[j];rfl,fun k a=>by rw[m k a,QLF w b (o+i) v k a],n,p,q,by rw[d.1];simp,d.2⟩
  have hc:w.cell? ⟨b,o+i,none⟩=some l[o+i]:=by simp[World.cell?,hb,show o+i<l.length by omega]
  have s:w.frozen? ⟨b,o+i,none⟩=false:=by
   simp only[World.frozen?,hb,Uc,Wx];have:=hfr (o+i) Om;omega
  simp only[storeCells,QCV,Sem.run_bind,run_store P w _ v _ (c v (W5 ..)),hc,s,Wi,Oa,Result.andThen_ok];exact h1
theorem QF4:∀(vs a c d:Ad),c.length=vs.length->QE6 vs a.length (a++c++d)=a++vs++d:=by
 intro vs
 induction vs with
 | nil=>intro a c d h;simp at h;subst h;simp[QE6]
 | cons v vs ih=>
  intro a c d h
  cases c with
  | nil=>simp at h
  | cons x c=>
   have b:c.length=vs.length:=Si h
   simp only[QE6]
   have e:(a++x::c++d).set a.length v=(a++[v])++c++d:=by
    rw[Wk,U5 _ _ (Wt _)];simp
   rw[e];have:=ih (a++[v]) c d b;simp only[Wd,Wl,O8,Z9]at this;rw[this];simp
theorem Qbe(w:World)(a old:Nat)(e:TypeId)(h:a<9223372036854775808):(Question.appendCap a old e).cut (w.tape w.drawn (.appendCap a old e))<=9223372036854775807:=by
 simp only[Question.cut]
 have b:(2 ^ 63:Nat)=9223372036854775808:=Dc
 have:=Nat.mod_lt (w.tape w.drawn (.appendCap a old e)) (show 0<2 ^ 63 - a by omega);omega
theorem QZw(w:World)(a old:Nat)(e:TypeId):a<=(Question.appendCap a old e).cut (w.tape w.drawn (.appendCap a old e)):=by
 simp only[Question.cut];omega
theorem RArr.first{P:Program}{q:Ac}{n c:Nat}{sz:Nat}{cs:Ad}{w:World}(h:RArr ⟨q,n,c⟩ sz cs (mem w)):(Builtin.firstCells sz n (.slice q n c)).run P w=.ok cs.toArray w:=by
 obtain⟨hl,hc⟩:=h;have nil:n=0->cs=[]:=fun hn=>Wm (by rw[hl];simp[hn])
 cases q with
 | none=>
  have hn:n=0:=by
   rcases Z6 n with h|h
   ·exact h
   ·obtain⟨b,o,_,_,_,_,d,_⟩:=hc h;cases d
  rw[nil hn];simp[Builtin.firstCells]
 | some a=>
  rcases Z6 n with hn|hn
  ·rw[nil hn,hn];simp[Builtin.firstCells,loadCells,loadCellsFrom]
  ·obtain⟨b,o,pre,post,e,fr,d,hb,g⟩:=hc hn;simp only[Wg]at d;subst d;have i:w.heap[b]? = some (.cells (pre++cs++post).toArray e fr):=hb
   exact run_firstCells_some (P:=P) w sz n ⟨b,o,none⟩ n c cs hl (fun j v hj=>by
    have k:j<cs.length:=(Wc.1 hj).1;rw[QCV];simp only[World.cell?,i];simp only[Z5,Wi,Oa,Zj];rw[Wk,Wr Om,g,Ku,Wj k]
    exact hj)
section
variable {P:Program}{t ty e:TypeId}{sz by_:Nat}{w:World}
theorem QUJ(h:QI5 P t e sz by_=true){q:Ac}{a n c:Nat}{cs:Ad}(j:(Builtin.firstCells sz n (.slice q n c)).run P w=.ok cs.toArray w){b:Nat}(k:b+n<=a) :
  (Builtin.append_ #[t,t] ty #[.slice none b a,.slice q n c]).run P w=.ok (.slice none (b+n) a) w:=by
 obtain⟨i,z,d,hi,g,l,m,o,p⟩:=QB4 h;subst g;simp[Builtin.append_,run_underlying d,sizeOf,typeInfo,hi,Builtin.lenOf,k,j]
theorem QND(j:QI5 P t e sz by_=true){a:Addr}{q:Ac}{b d n c:Nat}{cs:Ad}(k:(Builtin.firstCells sz n (.slice q n c)).run P w=.ok cs.toArray w)(l:b+n<=d){w':World}
  (m:(storeCells (a.add (b*sz)) cs).run P w=.ok () w'):(Builtin.append_ #[t,t] ty #[.slice (some a) b d,.slice q n c]).run P w=.ok (.slice (some a) (b+n) d) w':=by
 obtain⟨i,z,g,hi,h,o,p,r,s⟩:=QB4 j;subst h;simp[Builtin.append_,run_underlying g,sizeOf,typeInfo,hi,Builtin.lenOf,l,k,m]
theorem QTW(G:QI5 P t e sz by_=true){p q:Ac}{a d n c:Nat}{os cs:Ad}(I:∀b:World,mem b=mem w->(Builtin.firstCells sz a (.slice p a d)).run P b=.ok os.toArray b)
  (J:∀b:World,mem b=mem w->(Builtin.firstCells sz n (.slice q n c)).run P b=.ok cs.toArray b) (L:¬a+n<=d) (hb:(a+n)*by_<=140737488355328) {o:Ad}(M:QFR P e=some o) :
  ∃(k:Nat),a+n<=k/\k<=9223372036854775807/\(Builtin.append_ #[t,t] ty #[.slice p a d,.slice q n c]).run P w=.ok (.slice (some ⟨w.heap.size,0,none⟩) (a+n) k) (w.drew.alloc (.cells (os++cs++QJI o (k - (a+n))).toArray e)):=by
 obtain⟨i,z,r,hi,s,u,v,h,O⟩:=QB4 G;subst s;subst u;have Q:=growslice_fits (by omega:d<a+n) hb
 have y:¬(9223372036854775807<((a:Int)+(n:Int))):=by
  have:a+n<=(a+n)*i.bytes:=Zv _ v;omega
 have A:¬(281474976710656<Builtin.nextslicecap (a+n) d*i.bytes):=Om
 have C:=J w.drew rfl;have D:=I w.drew rfl;obtain⟨x,g,j,l,rfl⟩:=QCQ M
 obtain rfl:x=i:=by rw[hi]at j;exact (W3 j).symm
 obtain rfl:g=z:=by rw[h]at l;exact (W3 l).symm
 have E:∀m,Builtin.zeroCells g.cells m=(QJI g.cells.toList m).toArray:=fun m=>by rw[<-QEg];rfl
 refine⟨grownCap w (a+n) d e,QZw w _ _ _,Qbe w _ _ _ Om,?_⟩;simp[Builtin.append_,run_underlying r,sizeOf,typeInfo,zeroValue,hi,h,Builtin.lenOf,L,y,A,Question.forced,C,D,newRow,grownCap,E]
end
variable {B:QBJ}{As:List HP}{α:Type}
theorem QEy(E:Enc α)(m:Nat):QJI (E.f E.zero) m=QAi E (List.replicate m E.zero):=by
 induction m with
 | zero=>rfl
 | succ m ih=>simp only[QJI,ih,K8];simp[QAi]
theorem QN2{P:Program}{t ty e:TypeId}{sz V:Nat}(L:QI5 P t e sz V=true){E:Enc α}(hsz:E.sz=sz)(c2:QFR P e=some (E.f E.zero)){s y:Sl}{xs ys:List α}{F:List HP}{w:World}(W:Sx B (Ar E s xs::F) w)(c3:RAr E y ys (mem w))
  (hb:(xs.length+ys.length)*V<=140737488355328) :
  ∃U w',(Builtin.append_ #[t,t] ty #[s.v,y.v]).run P w=.ok (Sl.v U) w'/\Sx B (Ar E U (xs++ys)::F) w':=by
 subst hsz;obtain⟨p,d,i⟩:=s;obtain⟨q,n,c⟩:=y;obtain⟨M,X⟩:=c3;simp only at M;have G:=fun(w2:World) (h:mem w2=mem w)=>RArr.first (P:=P) (w:=w2) (by rw[h];exact X)
 have S:=W;obtain⟨g,⟨h1,Y,⟨zs,j⟩,Z,a0,m,a1⟩,r,a2⟩:=W;have b1:RAr E ⟨p,d,i⟩ xs (mem w):=j.read.mono (m.trans r);have b2:=fun(w2:World) (h:mem w2=mem w)=>RArr.first (P:=P) (w:=w2) (by rw[h];exact b1.2)
 have I:xs.length=d:=j.1;have c5:xs.length+zs.length=i:=j.2.1;by_cases J:d+n<=i
 ·cases p with
  | none=>
   have h0:i=0:=by
    rcases j.2.2 with⟨_,h⟩|⟨b,o,_,_,_,_,h,_⟩
    ·exact h
    ·cases h
   have b3:ys=[]:=Wm Om
   have b4:n=0:=Om
   subst b3 b4;refine⟨⟨none,d+0,i⟩,w,QUJ L (G w rfl) J,?_⟩;rw[Oi];exact S
  | some a=>
   rcases j.2.2 with⟨h,_⟩|⟨b,o,pre,post,C,fr,Q,R,D,hfr,b0⟩
   ·cases h
   ·simp only[Wg]at Q;subst Q;have T:w.heap[b]? = some (.cells (pre++QAi E (xs++zs)++post).toArray C fr):=r _ _ (m _ _ R);have b5:=QAI E xs;have b6:=QAI E ys
    have b7:ys.length<=zs.length:=Om
    have b8:QAi E (xs++zs)=QAi E xs++QAi E (zs.take ys.length)++QAi E (zs.drop ys.length):=by
     rw[<-QAU,<-QAU,Wk,Wu]
    obtain⟨w',a3,O,a4,a5,a6,a7,a8⟩:=QCp (P:=P) b C fr (QAi E ys) (o+d*E.sz) 0 (pre++QAi E (xs++zs)++post) w T (by
     have:(xs.length+ys.length)*E.sz<=(xs.length+zs.length)*E.sz:=Ux _ Om;rw[Nat.add_mul]at this
     simp only[Wd,QAI,b6,D,<-I];omega) hfr (QJk E ys)
    have b9:QE6 (QAi E ys) (o+d*E.sz+0) (pre++QAi E (xs++zs)++post)=pre++QAi E (xs++ys++zs.drop ys.length)++post:=by
     have:=QF4 (QAi E ys) (pre++QAi E xs) (QAi E (zs.take ys.length)) (QAi E (zs.drop ys.length)++post) (by rw[QAI,QAI,Ww,Ow b7]);rw[Wd,D,b5,I]at this;rw[Kq,b8,QAU,QAU];simp only[Wk]at this|-;exact this
    rw[b9]at O;refine⟨⟨some ⟨b,o,none⟩,d+n,i⟩,w',QND L (G w rfl) J (by rw[QCV];exact a3),?_⟩;have b':Sx B (Blk b (pre++QAi E (xs++zs)++post)::F) w:=⟨g,⟨h1,Y,⟨C,fr,R,hfr⟩,Z,a0,m,a1⟩,r,a2⟩
    have:=b'.write (cs':=pre++QAi E (xs++ys++zs.drop ys.length)++post) T a4 O (by
     simp only[Wd,Oc,QAI]
     have:xs.length+ys.length+(zs.length - ys.length)=xs.length+zs.length:=Om
     rw[this]) a5 a6 a7 a8
    obtain⟨u,x,z,A⟩:=this;exact⟨u,QA6 (fun q l=>⟨zs.drop ys.length,Ars.of_blk l rfl D (by simp;omega) (by simp;omega) b0⟩) x,z,A⟩
 ·obtain⟨k,c4,a9,a'⟩:=QTW (ty:=ty) L b2 G J (by rw[<-I,<-M];exact hb) c2;refine⟨⟨some ⟨w.heap.size,0,none⟩,d+n,k⟩,_,a',?_⟩;have c0:Sx B (Ar E ⟨p,d,i⟩ xs::F) w.drew:=S.drew;have c1:=(c0.tail).alloc (QAi E xs++QAi E ys++QJI (E.f E.zero) (k - (d+n))) e;obtain⟨u,x,z,A⟩:=c1;refine⟨u,QA6 (fun q l=>⟨List.replicate (k - (d+n)) E.zero,?_⟩) x,z,A⟩;rw[QEy,<-QAU,<-QAU]at l;exact Ars.of_blk (pre:=[]) (post:=[]) (Si l) rfl rfl (by simp;omega) (by simp;omega) a9
theorem QHU{P:Program}{t ty e:TypeId}{sz d:Nat}{z:Ad}[a:QJH P t e sz d z]{E:Enc α}{s y:Sl}{xs ys:List α}{upd:Sl->List α->List HP}{rest:List HP}{K:Sl->WP}[o:OwnA s As E xs upd rest][r:RdA B As y E ys]
  (hsz:E.sz=sz:=by rfl) (i:E.f E.zero=z:=by rfl) (hb:(xs.length+ys.length)*d<=140737488355328) (h:∀b,Ent B (upd b (xs++ys)) (K b)):Ent B As (QTn P t t ty s.v y.v K):=by
 intro w c;obtain⟨b,w',g,hx⟩:=QN2 (ty:=ty) a.ok hsz (by rw[i];exact a.zero) (c.perm o.start) (r.rd w c) hb;exact⟨b,w',g,h b w' (hx.perm (o.perm b (xs++ys)).symm)⟩
theorem QE4{P:Program}{t ty e:TypeId}{sz j:Nat}{z:Ad}[a:QJH P t e sz j z]{E:Enc α}{s:Sl}{xs:List α}{upd:Sl->List α->List HP}{rest:List HP}{b:Nat}{cs:Ad}{A:Ad->List HP}{F:List HP}{K:Sl->WP}
  [D:Own b As cs A F] [o:OwnA s F E xs upd rest] (x:α) (hx:E.f x=cs:=by rfl) (hsz:E.sz=sz:=by rfl) (C:E.f E.zero=z:=by rfl) (hb:(xs.length+1)*j<=140737488355328) (h:∀c,Ent B (upd c (xs++[x])) (K c)) :
  Ent B As (QTn P t t ty s.v (.slice (some ⟨b,0,none⟩) 1 1) K):=by
 intro w k;have i:Sx B (Blk b cs::F) w:=k.own
 have y:Sx B (Ars E ⟨some ⟨b,0,none⟩,1,1⟩ [x] []::F) w:=by
  obtain⟨g,l,m,n⟩:=i;exact⟨g,QA6 (fun q d=>QAp [x] 1 rfl (by simp[QAi,hx]) d) l,m,n⟩
 obtain⟨q,d,p⟩:=y.head;obtain⟨c,w',r,u⟩:=QN2 (ty:=ty) a.ok hsz (by rw[C];exact a.zero) (i.tail.perm o.start) (d.read.mono p) (Si hb);exact⟨c,w',r,h c w' (u.perm (o.perm c (xs++[x])).symm)⟩
end Go.Cf
namespace Go.Cf
open Go
def U8:Enc UInt8:=⟨fun x=>[.int .u8 x.toNat],1,fun _=>rfl,fun x v h=>by simp at h;subst h;rfl,Dc,0⟩
def I64:Enc Int:=⟨fun x=>[.int .i64 x],1,fun _=>rfl,fun x v h=>by simp at h;subst h;rfl,Dc,0⟩
def BL:Enc Bool:=⟨fun x=>[.bool x],1,fun _=>rfl,fun x v h=>by simp at h;subst h;rfl,Dc,false⟩
def SL:Enc Sl:=⟨fun x=>[x.v],1,fun _=>rfl,fun x v h=>by simp at h;subst h;rfl,Dc,⟨none,0,0⟩⟩
def ST:Enc ByteArray:=⟨fun x=>[.string x],1,fun _=>rfl,fun x v h=>by simp at h;subst h;rfl,Dc,ByteArray.empty⟩
theorem QAC(x:Int)(h1 : -9223372036854775808<=x)(d:x<=9223372036854775807):IntKind.i64.wrap x=x:=by
 have a:(2 ^ IntKind.i64.bits:Int)=18446744073709551616:=Dc
 have b:(2 ^ (IntKind.i64.bits - 1):Int)=9223372036854775808:=Dc
 have c:IntKind.i64.signed=true:=rfl;simp only[IntKind.wrap,a,b,c,Bool.true_and,Wq];split<;>omega
theorem QAE(k:Nat)(h:k<9223372036854775807):IntKind.i64.wrap ((k:Int)+1)=((k+1:Nat):Int):=by
 rw[QAC _ Om Om];simp
theorem QOE(x y:UInt8):((x.toNat:Int) != (y.toNat:Int))=(x != y):=by
 rw[Oo];simp only[On,ne_eq];rw[Int.natCast_inj,Z8]
end Go.Cf
namespace Go.Cf
open Go
section
variable {α β:Type}
def Each(R:α->β->HP):List α->List β->HP
 | [],[]=>fun _=>True
 | x::xs,y::ys=>QBr [R x y,Each R xs ys]
 | _,_=>fun _=>False
theorem Each.length{R:α->β->HP}:∀{xs:List α}{ys:List β}{h:QBs},Each R xs ys h->xs.length=ys.length:=by
 intro xs
 induction xs with
 | nil=>intro ys h g;cases ys<;>first|rfl|exact g.elim
 | cons x xs ih=>
  intro ys h g
  cases ys with
  | nil=>exact g.elim
  | cons y ys=>
   obtain⟨a,b,_,⟨c,d,i,_,_,_,_⟩,_,_,_⟩:=g;simp[ih i]
theorem Each.mono{R:α->β->HP}:∀{xs:List α}{ys:List β}{h g:QBs},Each R xs ys h->Sub h g->Each R xs ys g:=by
 intro xs
 cases xs with
 | nil=>intro ys h g a _;cases ys<;>first|trivial|exact a.elim
 | cons x xs=>
  intro ys h g a s
  cases ys with
  | nil=>exact a.elim
  | cons y ys=>exact QCn _ a s
theorem QF1{P:HP}{l l':List HP}{h:QBs}(m:∀g,P g->QBr l g)(n:QBr (P::l') h):QBr (l++l') h:=by
 obtain⟨a,b,c,i,d,j,k⟩:=n;exact (QAl l l').2 ⟨a,b,m a c,i,d,j,k⟩
theorem QDf{P:HP}{l l':List HP}{h:QBs}(m:∀g,QBr l g->P g)(n:QBr (l++l') h):QBr (P::l') h:=by
 obtain⟨a,b,c,i,d,j,k⟩:=(QAl l l').1 n;exact⟨a,b,m a c,i,d,j,k⟩
theorem QEn{R:α->β->HP}{x:α}{y:β}:∀{xs:List α}{ys:List β}{h:QBs},QBr [Each R xs ys,R x y] h->Each R (xs++[x]) (ys++[y]) h:=by
 intro xs
 induction xs with
 | nil=>
  intro ys h b
  cases ys with
  | cons=>obtain⟨a,_,d,_⟩:=b;exact d.elim
  | nil=>
   have i:=QDz b;exact QCn _ i (Sub.refl _)
 | cons x' xs ih=>
  intro ys h b
  cases ys with
  | nil=>obtain⟨a,_,d,_⟩:=b;exact d.elim
  | cons y' ys=>
   have h1:QBr ([R x' y',Each R xs ys]++[R x y]) h:=QF1 (fun g c=>c) b;exact QBC (l':=[Each R (xs++[x]) (ys++[y])]) (fun g c=>⟨g,fun _=>none,ih c,trivial,fun _=>.inr rfl,Sub.refl _,fun _ _ e=>by cases e⟩) h1
theorem QCA{R:α->β->HP}:∀{xs:List α}{ys:List β}{h:QBs}{i:Nat}{x:α}{y:β},Each R xs ys h->xs[i]? = some x->ys[i]? = some y->QBr [R x y,Each R (xs.eraseIdx i) (ys.eraseIdx i)] h:=by
 intro xs
 induction xs with
 | nil=>intro ys h i x y _ hx;simp at hx
 | cons x' xs ih=>
  intro ys h i x y d hx j
  cases ys with
  | nil=>exact d.elim
  | cons y' ys=>
   cases i with
   | zero=>
    simp only[Ov,Wg]at hx j;subst hx j;exact d
   | succ i=>
    have h1:QBr [R x' y',R x y,Each R (xs.eraseIdx i) (ys.eraseIdx i)] h:=by
     refine QBC (fun g c=>?_) d;obtain⟨a,b,k,_,_,l,_⟩:=c;exact QCn _ (ih k (Si hx) (Si j)) l
    refine QBC (l':=[Each R ((x'::xs).eraseIdx (i+1)) ((y'::ys).eraseIdx (i+1))]) (fun g c=>?_) (QDz h1);exact⟨g,fun _=>none,QCn _ c (Sub.refl _),trivial,fun _=>.inr rfl,Sub.refl _,fun _ _ e=>by cases e⟩
theorem QC9{R:α->β->HP}:∀{xs:List α}{ys:List β}{h:QBs}{i:Nat}{x:α}{y:β},i<xs.length->i<ys.length->QBr [R x y,Each R (xs.eraseIdx i) (ys.eraseIdx i)] h->Each R (xs.set i x) (ys.set i y) h:=by
 intro xs
 induction xs with
 | nil=>intro ys h i x y hi;simp at hi
 | cons x' xs ih=>
  intro ys h i x y hi hj b
  cases ys with
  | nil=>simp at hj
  | cons y' ys=>
   cases i with
   | zero=>exact b
   | succ i=>
    have h1:QBr ([R x' y',Each R (xs.eraseIdx i) (ys.eraseIdx i)]++[R x y]) h:=QF1 (fun g a=>a) (QDz b);refine QBC (l':=[Each R (xs.set i x) (ys.set i y)]) (fun g a=>?_) h1;exact⟨g,fun _=>none,ih (Si hi) (Si hj) (QDz a),trivial,fun _=>.inr rfl,Sub.refl _,fun _ _ e=>by cases e⟩
theorem QD0{R:α->β->HP}{S:α->β->HP}(l:∀x y g f,S x y g->Sub g f->S x y f)(m:∀x y g,R x y g->S x y g):∀{xs:List α}{ys:List β}{h:QBs}{i:Nat}{x:α}{y:β},Each R xs ys h->xs[i]? = some x->ys[i]? = some y->S x y h:=by
 intro xs ys h i x y c hx d;obtain⟨a,b,j,_,_,k,_⟩:=QCA c hx d;exact l _ _ _ _ (m _ _ _ j) k
end
def Qhg(s:Sl)(a:List Ab):HP:=fun h=>∃rs:List Sl,QBr [Ar SL s rs,Each (Ar U8) rs a] h
end Go.Cf
namespace Go.Cf
open Go
set_option linter.unusedVariables false
variable {B:QBJ}{As F:List HP}{α:Type}
theorem Upd.frz{h:QBs}{w:World}(j:Upd B h w){g:QBs}(l:Sub g h):Sub (frz B.W B.h0) (Cf.frz w g):=by
 intro k o a;unfold Cf.frz at a
 cases hb:B.h0 k with
 | some x=>rw[hb]at a;cases a
 | none=>
  rw[hb]at a;have c:k<B.W.heap.size:=(W9.1 a).1;have b:=j.old k c hb
  have d:g k=none:=by
   cases i:g k with
   | none=>rfl
   | some x=>have:=l k x i;rw[b.2]at this;cases this
  unfold Cf.frz;rw[d];show w.heap[k]? = some o;rw[b.1];exact a
theorem QIX{rd:HP}(h:∀g,Sub (frz B.W B.h0) g->∀a,QBr F a->Sub a g->rd g):Rds B F rd:=by
 intro w l a c d i m j;refine h _ (j.frz (QBV _ _)) a c ?_;intro k o b;unfold Cf.frz;rcases i k with e|e
 ·rw[e];exact d k o b
 ·rw[b]at e;cases e
class Rdb(B:QBJ)(F:List HP)(rd:HP):Prop where
 go:∀g,Sub (frz B.W B.h0) g->∀hF,QBr F hF->Sub hF g->rd g
theorem rdb{rd:HP}[r:Rdb B F rd]:Rds B F rd:=QIX r.go
def HP.and(P Q:HP):HP:=fun h=>P h/\Q h
instance Rdb.emp:Rdb B F emp:=⟨fun _ _ _ _ _=>trivial⟩
instance Rdb.and(P Q:HP)[p:Rdb B F P][q:Rdb B F Q]:Rdb B F (P.and Q):=⟨fun g a b c d=>⟨p.go g a b c d,q.go g a b c d⟩⟩
instance (priority:=low) Rdb.fro(s:Sl)(E:Enc α)(xs:List α)[f:Fro B s E xs]:Rdb B F (RAr E s xs):=⟨fun _ a _ _ _=>f.rd.mono a⟩
instance (priority:=high) Rdb.head(s:Sl)(E:Enc α)(xs:List α):Rdb B (Ar E s xs::F) (RAr E s xs):=⟨fun g _ d ⟨_,_,a,_,_,b,_⟩ c=>a.read.mono (b.trans c)⟩
instance Rdb.tail(A:HP)(rd:HP)[r:Rdb B F rd]:Rdb B (A::F) rd:=⟨fun g a h ⟨_,q,_,b,_,_,d⟩ c=>r.go g a q b (d.trans c)⟩
class Qhj(B:QBJ)(rd:HP):Prop where
 now:rd (frz B.W B.h0)
 mono:∀g h,rd g->Sub g h->rd h
instance (priority:=low) Rdb.froP(rd:HP)[f:Qhj B rd]:Rdb B F rd:=⟨fun g a _ _ _=>f.mono _ g f.now a⟩
theorem Sx.keep{l l':List HP}{w:World}(h:Sx B (l++l') w):Sx B l w:=by
 obtain⟨g,d,i,j⟩:=h;obtain⟨a,b,k,_,_,c,_⟩:=(QAl l l').1 d;exact⟨a,k,c.trans i,j.sub c⟩
theorem QCD(i:Nat){P1:HP}{F:List HP}[p:Pick i As P1 F]{φ:WP}(h:Ent B F φ):Ent B As φ:=fun w a=>h w (a.perm p.perm).tail
theorem QAd{l l':List HP}{φ:WP}(h:Ent B l φ):Ent B (l++l') φ:=fun w a=>h w a.keep
theorem Qit(s:Sl)(l h m sz:Nat):∀b o,s.p=some ⟨b,o,none⟩->l<m->(s.cut l h m sz).p=some ⟨b,o+l*sz,none⟩:=by
 intro b o a c;unfold Sl.cut;rw[Wb Om,a];simp[QCV]
theorem RAr.cut{E:Enc α}{s:Sl}{xs:List α}{h:QBs}(j:RAr E s xs h)(l r m:Nat)(h1:l<=r)(p:r<=m)(k:r<=xs.length):RAr E (s.cut l r m E.sz) ((xs.take r).drop l) h:=by
 obtain⟨hn,hc,c⟩:=j
 have a:((xs.take r).drop l).length=r - l:=by simp[Ow k]
 refine⟨a,by rw[QAI,a];rfl,fun h0=>?_⟩;have n:0<r - l:=h0;obtain⟨b,o,pre,post,e,fr,d,hb,g⟩:=c Om;refine⟨b,o+l*E.sz,pre++QAi E (xs.take l),QAi E (xs.drop r)++post,e,fr,Qit s l r m E.sz b o d Om,?_,?_⟩
 ·rw[hb];congr 3
  have i:xs=xs.take l++((xs.take r).drop l++xs.drop r):=by
   conv=>lhs;rw[<-Wu r xs]
   conv=>lhs;rw[<-Wu l (xs.take r)]
   rw[List.take_take,Ow h1,Wk]
  conv=>lhs;rw[i]
  rw[QAU,QAU];simp only[Wk]
 ·rw[Wd,QAI,g,Ww,Ow Om]
theorem QEi{s:Sl}{l r m:Int}{sz:Nat}{K:Sl->WP}(h0:0<=l)(h1:l<=r)(b:r<=m)(d:m<=s.c)(h:Ent B As (K (s.cut l.toNat r.toNat m.toNat sz))):Ent B As (QOx s l r m sz K):=
 fun w a=>⟨h0,h1,b,d,h w a⟩
theorem QGf(s:Sl)(r sz:Nat):s.cut 0 r s.c sz=⟨s.p,r,s.c⟩:=by
 unfold Sl.cut;split
 ·simp
 ·cases s.p with
  | none=>simp
  | some a=>simp[Addr.add]
theorem Ars.cap{E:Enc α}{s:Sl}{xs zs:List α}{h:QBs}(a:Ars E s xs zs h):s.n<=s.c:=by
 have:=a.1;have:=a.2.1;omega
theorem QZc{P:Program}{t ty e:TypeId}{sz a7:Nat}(a8:QI5 P t e sz a7=true){E:Enc α}(hsz:E.sz=sz){p:Ac}{a d:Nat}{y:Sl}{xs zs ys:List α}{F:List HP}{w:World}(a9:Sx B (Ars E ⟨p,a,d⟩ xs zs::F) w)(a':RAr E y ys (mem w))
  (b1:xs.length+ys.length<=d) (h0:0<d) :
  ∃w',(Builtin.append_ #[t,t] ty #[.slice p a d,y.v]).run P w=.ok (.slice p (a+y.n) d) w'/\Sx B (Ars E ⟨p,a+y.n,d⟩ (xs++ys) (zs.drop ys.length)::F) w':=by
 subst hsz;obtain⟨q,n,c⟩:=y;obtain⟨C,D⟩:=a';simp only at C;have a0:=fun(w2:World) (h:mem w2=mem w)=>RArr.first (P:=P) (w:=w2) (by rw[h];exact D)
 obtain⟨g,⟨h1,G,i,I,J,l,L⟩,m,M⟩:=a9;have x:xs.length=a:=i.1;have b0:xs.length+zs.length=d:=i.2.1;rcases i.2.2 with⟨_,h⟩|⟨b,o,pre,post,j,fr,s,u,k,hfr,Z⟩
 ·simp only at h;omega
 simp only at s;subst s;have z:w.heap[b]? = some (.cells (pre++QAi E (xs++zs)++post).toArray j fr):=m _ _ (l _ _ u);have a1:=QAI E xs;have a2:=QAI E ys
 have a3:ys.length<=zs.length:=Om
 have a4:QAi E (xs++zs)=QAi E xs++QAi E (zs.take ys.length)++QAi E (zs.drop ys.length):=by
  rw[<-QAU,<-QAU,Wk,Wu]
 obtain⟨w',O,r,Q,R,S,T,U⟩:=QCp (P:=P) b j fr (QAi E ys) (o+a*E.sz) 0 (pre++QAi E (xs++zs)++post) w z (by
  have:(xs.length+ys.length)*E.sz<=(xs.length+zs.length)*E.sz:=Ux _ Om;rw[Nat.add_mul]at this
  simp only[Wd,QAI,a2,k,<-x];omega) hfr (QJk E ys)
 have a5:QE6 (QAi E ys) (o+a*E.sz+0) (pre++QAi E (xs++zs)++post)=pre++QAi E (xs++ys++zs.drop ys.length)++post:=by
  have:=QF4 (QAi E ys) (pre++QAi E xs) (QAi E (zs.take ys.length)) (QAi E (zs.drop ys.length)++post) (by rw[QAI,QAI,Ww,Ow a3]);rw[Wd,k,a1,x]at this;rw[Kq,a4,QAU,QAU];simp only[Wk]at this|-;exact this
 rw[a5]at r;refine⟨w',QND a8 (a0 w rfl) Om (by rw[QCV];exact O),?_⟩;have a6:Sx B (Blk b (pre++QAi E (xs++zs)++post)::F) w:=⟨g,⟨h1,G,⟨j,fr,u,hfr⟩,I,J,l,L⟩,m,M⟩
 have:=a6.write (cs':=pre++QAi E (xs++ys++zs.drop ys.length)++post) z Q r (by
  simp only[Wd,Oc,QAI]
  have:xs.length+ys.length+(zs.length - ys.length)=xs.length+zs.length:=Om
  rw[this]) R S T U
 obtain⟨V,W,X,Y⟩:=this;exact⟨V,QA6 (fun q A=>Ars.of_blk A rfl k (by simp;omega) (by simp;omega) (by exact Z)) W,X,Y⟩
theorem QcY{P:Program}{t ty e:TypeId}{sz c2:Nat}(c3:QI5 P t e sz c2=true){E:Enc α}(hsz:E.sz=sz)(c4:QFR P e=some (E.f E.zero)){s:Sl}{xs zs u:List α}{l k c:Nat}{F:List HP}{w:World}(X:Sx B (Ars E s xs zs::F) w)
  (A:xs++zs=u) (hlk:l+k<=u.length) (h0:0<s.c) :
  ∃w',(Builtin.clear_ #[t] ty #[.slice (s.p.map (·.add (l*sz))) k c]).run P w=.ok (.tuple #[]) w'/\∀d j,d++j=u.take l++List.replicate k E.zero++u.drop (l+k)->d.length=xs.length->Sx B (Ars E s d j::F) w':=by
 subst hsz A;obtain⟨i,z,I,hi,c5,c6,c7,J,c8⟩:=QB4 c3;obtain⟨Y,a,L,M,Z⟩:=QCQ c4
 obtain rfl:Y=i:=by rw[hi]at L;exact (W3 L).symm
 obtain rfl:a=z:=by rw[J]at M;exact (W3 M).symm
 have T:(Builtin.zeroCells a.cells k).toList=QJI a.cells.toList k:=by
  have:=QEg (z:=a.cells) (n:=k);show (Builtin.zeroCells a.cells k).toList=_
  have x:Builtin.zeroCells a.cells k=(QJI a.cells.toList k).toArray:=by rw[<-this];rfl
  rw[x]
 have b6:=X;obtain⟨g,⟨h1,x,y,a0,a1,O,a2⟩,Q,a3⟩:=X;rcases y.2.2 with⟨_,h⟩|⟨b,o,pre,post,C,fr,D,S,G,hfr,b5⟩
 ·omega
 have U:w.heap[b]? = some (.cells (pre++QAi E (xs++zs)++post).toArray C fr):=Q _ _ (O _ _ S)
 have b7:QJI a.cells.toList k=QAi E (List.replicate k E.zero):=by rw[<-Z,QEy]
 obtain⟨w',a4,R,a5,a6,a7,a8,a9⟩:=QCp (P:=P) b C fr (QAi E (List.replicate k E.zero)) (o+l*E.sz) 0 (pre++QAi E (xs++zs)++post) w U (by
  have:(l+k)*E.sz<=(xs++zs).length*E.sz:=Ux _ hlk;rw[Nat.add_mul]at this
  simp only[Wd,QAI,G,O1]at this|-;omega) hfr (QJk E _)
 have b8:QAi E (xs++zs)=QAi E ((xs++zs).take l)++QAi E (((xs++zs).drop l).take k)++QAi E ((xs++zs).drop (l+k)):=by
  rw[<-QAU,<-QAU,Wk,<-Lh,Wu,Wu]
 have b9:QE6 (QAi E (List.replicate k E.zero)) (o+l*E.sz+0) (pre++QAi E (xs++zs)++post)=pre++QAi E ((xs++zs).take l++List.replicate k E.zero++(xs++zs).drop (l+k))++post:=by
  have:=QF4 (QAi E (List.replicate k E.zero)) (pre++QAi E ((xs++zs).take l)) (QAi E (((xs++zs).drop l).take k)) (QAi E ((xs++zs).drop (l+k))++post) (by
   rw[QAI,QAI,Ww,Oc,O1,Ow Om])
  rw[Wd,G,QAI,Ww,Ow Om]at this;rw[Kq,b8,QAU,QAU];simp only[Wk]at this|-;exact this
 rw[b9]at R;by_cases b':k=0
 ·subst b';refine⟨w,by simp[Builtin.clear_,run_underlying I,D],fun d j he v=>?_⟩;obtain⟨g,a',b0,A⟩:=b6;refine⟨g,QA6 (fun q r=>?_) a',b0,A⟩;obtain⟨p,n,c'⟩:=s;exact r.shift (by rw[he];simp) (by rw[v];exact r.1)
 ·refine⟨w',?_,fun d j he v=>?_⟩
  ·obtain⟨m,rfl⟩:∃m,k=m+1:=⟨k - 1,Om⟩;rw[b7]at T;simp[Builtin.clear_,run_underlying I,D,QCV,zeroValue,typeInfo,hi,J,T,a4]
  ·have c0:Sx B (Blk b (pre++QAi E (xs++zs)++post)::F) w:=⟨g,⟨h1,x,⟨C,fr,S,hfr⟩,a0,a1,O,a2⟩,Q,a3⟩
   have V:((xs++zs).take l++List.replicate k E.zero++(xs++zs).drop (l+k)).length=(xs++zs).length:=by
    simp only[Wd,Ww,O1,Oc]at hlk|-;omega
   have:=c0.write (cs':=pre++QAi E ((xs++zs).take l++List.replicate k E.zero++(xs++zs).drop (l+k))++post) U a5 R (by
    rw[Wd,Wd,Wd,Wd,QAI,QAI,V]) a6 a7 a8 a9
   obtain⟨b1,b2,b3,b4⟩:=this;refine⟨b1,QA6 (fun q r=>Ars.of_blk (b:=b) (o:=o) (pre:=pre) (post:=post) (by rw[he];exact r) D G (by rw[v];exact y.1) ?_ (by exact b5)) b2,b3,b4⟩
   have c1:d.length+j.length=xs.length+zs.length:=by
    have W:=Uh List.length he;rw[V]at W;simpa using W
   rw[c1];exact y.2.1
end Go.Cf
namespace Go.Cf
open Go
variable {B:QBJ}{As:List HP}{α:Type}
theorem QCl{E:Enc α}{xs:List α}(s:Sl){upd:Sl->List α->List HP}{rest:List HP}[o:OwnA s As E xs upd rest]{φ:WP}(h:xs.length=s.n->s.n<=s.c->Ent B As φ):Ent B As φ:=by
 intro w a;obtain⟨g,⟨zs,b⟩,_⟩:=(a.perm o.start).head;exact h b.1 b.cap w a
end Go.Cf
namespace Go.Cf
open Go
variable {B:QBJ}{As:List HP}{α:Type}
theorem QCe{P:HP}{g:QBs}(h:P g):QBr [P] g:=⟨g,fun _=>none,h,trivial,fun _=>.inr rfl,Sub.refl _,fun _ _ e=>by cases e⟩
theorem Qhx(i:Nat){E:Enc α}{s:Sl}{xs:List α}{F:List HP}[p:Pick i As (Ar E s xs) F]{φ:WP}(h:∀zs,xs.length=s.n->xs.length+zs.length=s.c->Ent B (Ars E s xs zs::F) φ):Ent B As φ:=by
 refine Ent.perm p.perm ?_;intro w k;obtain⟨g,⟨a,b,⟨zs,j⟩,l,d,m,o⟩,q,r⟩:=k;exact h zs j.1 j.2.1 w ⟨g,⟨a,b,j,l,d,m,o⟩,q,r⟩
theorem Qey{E:Enc α}{s:Sl}{xs zs:List α}{F:List HP}{φ:WP}(b:Nat)(a d:List α)(hx:xs++zs=a++d)(hn:a.length=b)(h:Ent B (Ars E ⟨s.p,b,s.c⟩ a d::F) φ):Ent B (Ars E s xs zs::F) φ:=by
 refine QId (fun g i=>QA6 (fun q j=>?_) i) h;obtain⟨p,n,c⟩:=s;exact j.shift hx hn
theorem xar{E:Enc α}{s:Sl}{xs zs:List α}{F:List HP}{φ:WP}(h:Ent B (Ar E s xs::F) φ):Ent B (Ars E s xs zs::F) φ:=
 QId (fun _ a=>QA6 (fun _ b=>⟨zs,b⟩) a) h
theorem Qf9{P:Program}{t ty e:TypeId}{sz l:Nat}{z:Ad}[a:QJH P t e sz l z]{E:Enc α}{p:Ac}{c b:Nat}{y:Sl}{xs zs ys:List α}{F:List HP}{K:Sl->WP}
  (m:∀g,Ars E ⟨p,c,b⟩ xs zs g->RAr E y ys g) (o:xs.length+ys.length<=b) (h0:0<b) (hsz:E.sz=sz:=by rfl) (h:Ent B (Ars E ⟨p,c+y.n,b⟩ (xs++ys) (zs.drop ys.length)::F) (K ⟨p,c+y.n,b⟩)) :
  Ent B (Ars E ⟨p,c,b⟩ xs zs::F) (QTn P t t ty (.slice p c b) y.v K):=by
 intro w d;obtain⟨q,i,j⟩:=d.head;obtain⟨w',k,hx⟩:=QZc (ty:=ty) a.ok hsz d ((m q i).mono j) o h0;exact⟨⟨p,c+y.n,b⟩,w',k,h w' hx⟩
theorem QkI{P:Program}{t ty e:TypeId}{sz p:Nat}{z:Ad}[a:QJH P t e sz p z]{E:Enc α}{s:Sl}{xs zs:List α}{r m:Nat}{F:List HP}{K:Value->WP}
  (h1:xs.length<m) (_h2:xs.length<=r) (x:r<=xs.length+zs.length) (h0:0<s.c) (hsz:E.sz=sz:=by rfl) (u:E.f E.zero=z:=by rfl) (h:Ent B (Ar E s xs::F) (K (.tuple #[]))) :
  Ent B (Ars E s xs zs::F) (QeZ P t ty (s.cut xs.length r m sz).v K):=by
 intro w d;obtain⟨w',i,hx⟩:=QcY (ty:=ty) (l:=xs.length) (k:=r - xs.length) (c:=m - xs.length) a.ok hsz (by rw[u];exact a.zero) d rfl (by simp;omega) h0;refine⟨.tuple #[],w',?_,?_⟩
 ·unfold Sl.cut Sl.v;rw[Wb Om];exact i
 ·have:=hx xs (List.replicate (r - xs.length) E.zero++zs.drop (r - xs.length)) (by simp) rfl;obtain⟨g,j,n,o⟩:=this;exact h w' ⟨g,QA6 (fun q b=>⟨_,b⟩) j,n,o⟩
end Go.Cf
namespace Go.Cf
open Go
variable {B:QBJ}{As:List HP}{α β:Type}
theorem QAg(i:Nat){P1 Q:HP}{F:List HP}[p:Pick i As P1 F]{φ:WP}(h:∀g,P1 g->Q g)(k:Ent B (Q::F) φ):Ent B As φ:=
 Ent.perm p.perm (QId (fun _ a=>QA6 h a) k)
theorem QRv(i j:Nat){P1 a Q:HP}{F b:List HP}[p:Pick i As P1 F][q:Pick j F a b]{φ:WP}(h:∀g,QBr [P1,a] g->Q g)(k:Ent B (Q::b) φ):Ent B As φ:=
 Ent.perm (p.perm.trans (q.perm.cons P1)) (QId (fun _ c=>QDf (l:=[P1,a]) h c) k)
theorem Qgv(i j l:Nat){P1 a P3 Q:HP}{F b c:List HP}[p:Pick i As P1 F][q:Pick j F a b][r:Pick l b P3 c]{φ:WP}(h:∀g,QBr [P1,a,P3] g->Q g)(k:Ent B (Q::c) φ):Ent B As φ:=
 Ent.perm (p.perm.trans (((q.perm.trans (r.perm.cons a))).cons P1)) (QId (fun _ d=>QDf (l:=[P1,a,P3]) h d) k)
theorem Qc1(i:Nat){P1:HP}{F:List HP}[p:Pick i As P1 F]{φ:WP}(l:List HP)(h:∀g,P1 g->QBr l g)(k:Ent B (l++F) φ):Ent B As φ:=
 Ent.perm p.perm (QId (fun _ a=>QF1 h a) k)
theorem QB6(i:Nat){P1:HP}{F:List HP}[p:Pick i As P1 F]{φ:WP}{b:Prop}(h:∀g,P1 g->b)(k:b->Ent B As φ):Ent B As φ:=by
 intro w a;obtain⟨g,c,_⟩:=(a.perm p.perm).head;exact k (h g c) w a
end Go.Cf
namespace Go.Cf
open Go
variable {B:QBJ}
theorem QgB{A a b c:HP}{F:List HP}{φ:WP}(h:Ent B (A::a::b::c::F) φ):Ent B ([A,a,b,c]++F) φ:=h
end Go.Cf
namespace Go.Cf
open Go
variable {B:QBJ}{As:List HP}
theorem ca0{K:WP}{u:Unit}(h:Ent B As K):Ent B As (Cur.app [] K u):=h
theorem ca1{s:Sh}{K:s.ty->WP}{x:s.ty}{u:Unit}(h:Ent B As (K x)):Ent B As (Cur.app [s] K (x,u)):=h
theorem ca2{s t:Sh}{K:s.ty->t.ty->WP}{x:s.ty}{y:t.ty}{u:Unit}(h:Ent B As (K x y)):Ent B As (Cur.app [s,t] K (x,y,u)):=h
end Go.Cf
namespace Go.Cf
open Go
variable {B:QBJ}{As:List HP}
theorem QL3(i:Nat){F k:List HP}{P rd:HP}[p:Pick i F P k](h:∀g,P g->rd g)(mono:∀g f,rd g->Sub g f->rd f):Rds B F rd:=
 QIX fun g _ l b c=>by
  obtain⟨a,_,d,_,_,j,_⟩:=QFx p.perm b;exact mono _ _ (h a d) (j.trans c)
end Go.Cf
namespace Go.Cf
open Go
variable {B:QBJ}{As:List HP}
theorem QZM{A:HP}{φ:WP}(d:A (fun _=>none))(h:Ent B (A::As) φ):Ent B As φ:=by
 rintro w ⟨g,a,b,c⟩;exact h w ⟨g,⟨fun _=>none,g,d,a,fun _=>.inl rfl,fun _ _ e=>(by cases e),Sub.refl _⟩,b,c⟩
theorem QkN(i:Nat){P:HP}{F:List HP}[p:Pick i As P F]{φ:WP}(h:Ent B (F++[P]) φ):Ent B As φ:=
 Ent.perm (p.perm.trans (List.perm_append_comm (l₁:=[P]) (l₂:=F))) h
end Go.Cf
namespace Go.Cf
open Go Go.RowKit
set_option linter.unusedVariables false
variable {α:Type}
theorem QK4{E:Enc α}{s:Sl}{xs:List α}{w:World}(hn:xs.length=s.n)
  (h:0<s.n->∃b o,s.p=some ⟨b,o,none⟩/\∀j,j<s.n*E.sz->w.cell? ⟨b,o+j,none⟩=(QAi E xs)[j]?):RAr E s xs (mem w):=by
 have a:=QAI E xs;refine⟨hn,by rw[a,hn],fun h0=>?_⟩;obtain⟨b,o,l,hc⟩:=h h0;have d:0<s.n*E.sz:=Nat.mul_pos h0 E.pos
 have key:∃c e fr,w.heap[b]? = some (.cells c e fr):=by
  have h1:=hc 0 d;have g:(QAi E xs)[0]? = some ((QAi E xs)[0]'(by rw[a,hn];exact d)):=Wa (by rw[a,hn];exact d);rw[g]at h1;unfold World.cell? at h1;split at h1
  ·rename_i c e fr k;exact⟨c,e,fr,k⟩
  ·cases h1
 obtain⟨c,e,fr,hb⟩:=key
 have i:∀j,j<s.n*E.sz->c.toList[o+j]? = (QAi E xs)[j]?:=fun j hj=>by
  have:=hc j hj;simp only[World.cell?,hb]at this;simpa using this
 have q:o+(s.n*E.sz - 1)<c.toList.length:=by
  have h1:=i (s.n*E.sz - 1) Om;have g:(QAi E xs)[s.n*E.sz - 1]? = some ((QAi E xs)[s.n*E.sz - 1]'(by rw[a,hn];omega)):=Wa (by rw[a,hn];omega);rw[g]at h1;exact (Wc.1 h1).1
 refine⟨b,o,c.toList.take o,(c.toList.drop o).drop (s.n*E.sz),e,fr,l,?_,by simp only[Ww];omega⟩;show w.heap[b]? = _;rw[hb];congr 2
 have m:QAi E xs=(c.toList.drop o).take (s.n*E.sz):=by
  apply Uf;intro j;by_cases hj:j<s.n*E.sz
  ·rw[<-i j hj,Ut hj,Zk]
  ·rw[Ui (by rw[a,hn];omega),Ui (by simp only[Ww];omega)]
 rw[m,Wk,Wu,Wu]
theorem Qdr{W w':World}{Bs:List HP}(h:Sx ⟨W,fun _=>none⟩ Bs w'):Below W.heap.size W w':=by
 obtain⟨g,_,_,a⟩:=h;exact⟨a.os,a.tape,a.output,a.size,fun k b=>(a.old k b rfl).1⟩
theorem QWY(W:World):frz W (fun _=>none)=mem W:=by funext k;rfl
theorem Ct.top{P:Program}{f:FuncId}{args:Ad}{rs:Rs}{ss:List Sh}{rd:HP}{post:Tup ss->List HP->Prop}(c:Ct P f args rs ss [] rd post)(W:World)(h:rd (mem W)) :
  Calls P f args.toArray W fun e w'=>∃t Bs,e=.returned (rs.mk (Tup.vals ss t))/\post t Bs/\Below W.heap.size W w':=
 (c W (fun _=>none) trivial (fun _ _ e=>by cases e) (by rw[QWY];exact h)).mono fun e w' ⟨t,Bs,h1,a,b⟩=>⟨t,Bs,h1,a,Qdr b⟩
section
open Go.ChangeShapes Go.WideShapes Go.Deep
variable {H:Type}{enc:TypeId×Value->H}{P:Program}{w:World}{base:Nat}{held:Bool}
theorem QfO(xs:Ab)(j:Nat):(QAi U8 xs)[j]? = xs[j]?.map fun x=>Value.int .u8 x.toNat:=by
 have:QAi U8 xs=xs.map fun x=>Value.int .u8 (x.toNat:Int):=by
  unfold QAi
  induction xs with
  | nil=>rfl
  | cons x xs ih=>simp only[U3,U9,ih];rfl
 rw[this,Ol]
end
end Go.Cf
namespace Go.Cf
open Go Go.RowKit Go.ChangeShapes Go.WideShapes Go.Deep
set_option linter.unusedVariables false
variable {α β:Type}{H:Type}{enc:TypeId×Value->H}{P:Program}{w:World}{base:Nat}{held:Bool}
def QVO(enc:TypeId×Value->H)(P:Program)(w:World)(base:Nat)(held:Bool)(t:TypeId)(E:Enc α)(R:α->β->Prop):Prop:=
 ∀(c:Nat) (cs:Ad) (x:DataW H×List MemPlace),DataW.trod enc P w base (fun _=>true) held c t cs=some x->∃a b,cs=E.f a/\R a b
theorem QUe[Inhabited β]{t e:TypeId}{E:Enc α}{R:α->β->Prop}(V:P.underlying t=some (.slice e))(W:P.cellsOf e=E.sz)(h:QVO enc P w base held e E R) :
  QVO enc P w base held t SL (fun(s:Sl) (p:List β)=>s.n<=s.c/\∃l:List α,RAr E s l (mem w)/\l.length=p.length/\∀(i:Nat) (a:α) (b:β),l[i]? = some a->p[i]? = some b->R a b):=by
 intro X cs x hx;rcases open_slice V hx with⟨k,_⟩|⟨a,len,Z,m,n,D,a0,k,_,g,_,A,_,S⟩
 ·exact⟨⟨none,0,0⟩,[],k,Wt _,[],QK4 rfl (fun h=>absurd h (Zu 0)),rfl,fun i a b h=>by simp at h⟩
 simp only[O7]at A;subst A
 have each:∀i,i<m->∃q:α×β,w.cells? base (a.add (i*E.sz)) E.sz=some (E.f q.1)/\R q.1 q.2:=by
  intro i hi;obtain⟨cs',h1,d⟩:=S i hi;obtain⟨u,v,rfl,O⟩:=h _ _ _ d;rw[W]at h1;exact⟨(u,v),h1,O⟩
 have:Inhabited α:=⟨E.zero⟩;obtain⟨q,y⟩:=choose_lt each;refine⟨⟨some a,len,m⟩,(List.range len).map fun i=>(q i).2,k,g,(List.range len).map fun i=>(q i).1,QK4 (by simp) (fun h0=>?_),by simp,fun i u v hi hb=>?_⟩
 ·obtain⟨b,o,z⟩:=a
  have C:∀i r,i<m->r<E.sz->w.cell? ((⟨b,o,z⟩:Addr).add (i*E.sz+r))=(E.f (q i).1)[r]?:=by
   intro i r hi M;obtain⟨_,Y,Q⟩:=World.cells?_some (y i hi).1;have:=Q r M
   rwa [add_add]at this
  have T:z=none:=by
   have h1:=C 0 0 (Ug h0 g) E.pos;have d:(E.f (q 0).1)[0]? = some ((E.f (q 0).1)[0]'(by rw[E.len];exact E.pos)):=Wa _;rw[d]at h1;simpa [Addr.add]using World.cell?_spot h1
  subst T;refine⟨b,o,rfl,fun j hj=>?_⟩;have U:=E.pos;have G:j / E.sz<len:=Nat.div_lt_of_lt_mul (by rw[Nat.mul_comm];exact hj);have I:j % E.sz<E.sz:=Nat.mod_lt _ U
  have J:j / E.sz*E.sz+j % E.sz=j:=by rw[Nat.mul_comm];exact Nat.div_add_mod j E.sz
  have h1:=C (j / E.sz) (j % E.sz) (Ug G g) I;rw[J,QCV]at h1;have d:=QWo E ((List.range len).map fun i=>(q i).1) (j / E.sz) (j % E.sz) (q (j / E.sz)).1 (by rw[Ol,K9 G];rfl) I;rw[J]at d;rw[h1,d]
 ·have L:i<len:=by
   have:=(Wc.1 hi).1;simpa using this
  rw[Ol,K9 L]at hi hb;simp only[U4,Wg]at hi hb;subst hi hb;exact (y i (Ug L g)).2
theorem Qaj{t:TypeId}(h:P.underlying t=some (.int .i64)):QVO enc P w base held t I64 (fun a b=>a=b/\-9223372036854775808<=a/\a<=9223372036854775807):=by
 intro i cs x hx;obtain⟨n,d,_,c⟩:=DataW.trod_int h hx;have h1:IntKind.i64.min = -9223372036854775808:=rfl;have g:IntKind.i64.max=9223372036854775807:=rfl;simp only[Lit.wf,Wf,Wq,h1,g]at c;exact⟨n,n,d,rfl,c⟩
end Go.Cf
namespace Go.Cf
open Go
def i64(x:Int):Prop:=-9223372036854775808<=x/\x<=9223372036854775807
theorem Qa9{n:Int}(h:(Lit.int .i64 n).wf=true):i64 n:=by
 have h1:IntKind.i64.min = -9223372036854775808:=rfl;have a:IntKind.i64.max=9223372036854775807:=rfl;simpa [Lit.wf,h1,a,i64]using h
end Go.Cf
namespace Go.Cf
open Go
set_option linter.unusedVariables false
variable {B:QBJ}{As F:List HP}{α β:Type}
theorem QIN(z:Array Value)(n sz:Nat)(h:z.size=sz):madeCells z (n*sz)=(QJI z.toList n).toArray:=by
 subst h;exact QEg z n
theorem QTF{P:Program}{t e:TypeId}{sz d:Nat}{z:Ad}[a:QJH P t e sz d z](E:Enc α){n:Int}{K:Sl->WP}(h0:0<=n)(hb:n.toNat*d<=140737488355328)(hsz:E.sz=sz:=by rfl)(J:E.f E.zero=z:=by rfl)
  (h:∀b,Ent B (Ar E ⟨some ⟨b,0,none⟩,n.toNat,n.toNat⟩ (List.replicate n.toNat E.zero)::As) (K ⟨some ⟨b,0,none⟩,n.toNat,n.toNat⟩)):Ent B As (QiC P t (.int .i64 n) (.int .i64 n) K):=by
 intro w r;obtain⟨i,z0,s,hi,u,v,x,j,y⟩:=QB4 a.ok;obtain⟨c,k,l,m,A⟩:=QCQ a.zero
 obtain rfl:c=i:=by rw[hi]at l;exact (W3 l).symm
 obtain rfl:k=z0:=by rw[j]at m;exact (W3 m).symm
 have L:n.toNat<=n.toNat*d:=Zv _ x
 have o:=run_make (P:=P) w t e c k s hi j .i64 .i64 n n h0 (Uo _) (by
  have:((c.bytes*n.toNat:Nat):Int)<=281474976710656:=by rw[v,Nat.mul_comm];omega
  rw[Int.natCast_mul]at this
  have I:((n.toNat:Nat):Int)=n:=Om
  rw[I]at this
  exact this) Om
 rw[u,QIN _ _ _ y,<-A,<-J,QEy]at o;refine⟨⟨some ⟨w.heap.size,0,none⟩,n.toNat,n.toNat⟩,_,o,h w.heap.size _ ?_⟩;obtain⟨g,C,D,G⟩:=r.alloc (QAi E (List.replicate n.toNat E.zero)) e;exact⟨g,QA6 (fun q p=>⟨[],QAp _ n.toNat (by simp) rfl p Om⟩) C,D,G⟩
theorem QXx{s:Sl}{r:Int}{m:Nat}{sz:Nat}{K:Sl->WP}(a:m=s.c)(h0:0<=r)(h1:r<=s.c)(h:Ent B As (K ⟨s.p,r.toNat,s.c⟩)):Ent B As (QOx s 0 r (m:Int) sz K):=by
 subst a;refine QEi Om h0 h1 Om ?_;have e:=QGf s r.toNat sz;simpa using e ▸ h
theorem QcN{ys zs:List α}{k:Nat}{v:α}(h:∀j,j<k->ys[j]? = zs[j]?)(a:k<ys.length)(hv:zs[k]? = some v):∀j,j<k+1->(ys.set k v)[j]? = zs[j]?:=by
 intro j hj;by_cases e:j=k
 ·subst e;rw[Wy a,hv]
 ·rw[Oy (Ne.symm e)];exact h j Om
theorem QVe{ys zs:List α}(hl:ys.length=zs.length)(h:∀j,j<zs.length->ys[j]? = zs[j]?):ys=zs:=by
 apply Uf;intro j;by_cases hj:j<zs.length
 ·exact h j hj
 ·rw[Ui Om,Ui Om]
theorem Qf4(o:BinOp)(x y:Int):0<=bits o .u8 x y/\bits o .u8 x y<256:=by
 have e:∀z:Int,0<=IntKind.u8.wrap z/\IntKind.u8.wrap z<256:=by
  intro z
  have a:(2 ^ IntKind.u8.bits:Int)=256:=Dc
  have b:IntKind.u8.signed=false:=rfl;simp only[IntKind.wrap,a,b,Bool.false_and];simp;omega
 exact e _
theorem QFt(i:Nat){P:HP}{F:List HP}[p:Pick i As P F]{φ:WP}(h:Ent B (P::F) φ):Ent B As φ:=Ent.perm p.perm h
theorem QiE(i:Nat){P:HP}{F:List HP}[p:Pick i As P F]{φ:WP}(h:Ent B (F++[P]) φ):Ent B As φ:=QkN i h
class Find(P:HP)(As:List HP)(F:outParam (List HP)):Prop where
 perm:As.Perm (P::F)
instance (priority:=high) Find.head(P:HP)(As:List HP):Find P (P::As) As:=⟨O6 _⟩
instance Find.tail(A P:HP)(As F:List HP)[h:Find P As F]:Find P (A::As) (A::F):=⟨(h.perm.cons A).trans (List.Perm.swap _ _ _)⟩
class Split(pre As:List HP)(F:outParam (List HP)):Prop where
 perm:As.Perm (pre++F)
instance Split.nil(As:List HP):Split [] As As:=⟨O6 _⟩
instance Split.cons(P:HP)(pre As F G:List HP)[f:Find P As F][h:Split pre F G]:Split (P::pre) As G:=⟨f.perm.trans (h.perm.cons P)⟩
theorem xcl{P:Program}{f:FuncId}{args:Ad}{rs:Rs}{ss:List Sh}{rd:HP}{post:Tup ss->List HP->Prop}{K:Cur ss}{pre G:List HP}[s:Split pre As G]
  (a:Ct P f args rs ss pre rd post) (b:Rds B G rd) (h:∀t Bs,post t Bs->Ent B (Bs++G) (Cur.app ss K t)):Ent B As (QAX P f args rs ss K):=Qfw a s.perm b h
theorem QAK(Bs:List HP){G:List HP}[s:Split Bs As G]{φ:WP}(h:Ent B Bs φ):Ent B As φ:=Ent.perm s.perm (QAd h)
theorem QGO{Bs G:List HP}{φ:WP}(h:Ent B Bs φ)[s:Split Bs As G]:Ent B As φ:=Ent.perm s.perm (QAd h)
theorem QBO(l:List HP)(Q:HP){G:List HP}[s:Split l As G]{φ:WP}(h:∀g,QBr l g->Q g)(k:Ent B (Q::G) φ):Ent B As φ:=
 Ent.perm s.perm (QId (fun _ a=>QDf (l:=l) h a) k)
theorem QVj{R:α->β->HP}{j:List α}{k:List β}:∀{xs:List α}{ys:List β}{h:QBs},QBr [Each R xs ys,Each R j k] h->Each R (xs++j) (ys++k) h:=by
 intro xs
 induction xs with
 | nil=>
  intro ys h i
  cases ys with
  | cons=>obtain⟨a,_,m,_⟩:=i;exact m.elim
  | nil=>
   obtain⟨a,b,_,⟨c,d,n,_,_,o,_⟩,_,q,p⟩:=i;exact Each.mono n (o.trans p)
 | cons x xs ih=>
  intro ys h i
  cases ys with
  | nil=>obtain⟨a,_,m,_⟩:=i;exact m.elim
  | cons y ys=>
   have h1:QBr ([R x y,Each R xs ys]++[Each R j k]) h:=QF1 (fun g l=>l) i;exact QBC (l':=[Each R (xs++j) (ys++k)]) (fun g l=>QCe (ih l)) h1
theorem Qc2{P:Program}{E:Enc α}{y:Sl}{ys:List α}{w:World}(g:RAr E y ys (mem w)){k:Nat}(h:k<=ys.length):(Builtin.firstCells E.sz k y.v).run P w=.ok (QAi E (ys.take k)).toArray w:=by
 obtain⟨q,n,c⟩:=y;by_cases h0:k=0
 ·subst h0;cases q<;>simp[Builtin.firstCells,loadCells,loadCellsFrom,QAi]
 ·have h1:=g.cut 0 k k (Ua _) (Wt _) h
  have e:(⟨q,n,c⟩:Sl).cut 0 k k E.sz=⟨q,k,k⟩:=by
   unfold Sl.cut;rw[Wb h0]
   cases q with
   | none=>simp
   | some a=>simp[Addr.add]
  rw[e,Kk]at h1;have b:=RArr.first (P:=P) h1.2
  have d:Builtin.firstCells E.sz k (Value.slice q n c)=Builtin.firstCells E.sz k (Value.slice q k k):=by cases q<;>rfl
  show (Builtin.firstCells E.sz k (Value.slice q n c)).run P w=_;rw[d];exact b
theorem Qfp{P:Program}{t u ty e:TypeId}{sz c9:Nat}(d0:QI5 P t e sz c9=true){E:Enc α}(hsz:E.sz=sz){s y:Sl}{xs zs D ys:List α}{l dn dc:Nat}{base:Ac}{F:List HP}{w:World}(Z:Sx B (Ars E s xs zs::F) w)
  (L:xs++zs=D) (a0:RAr E y ys (mem w)) (d1:base=s.p.map (·.add (l*sz))\/dn=0) (hlk:l+min ys.length dn<=D.length) :
  ∃w',(Builtin.copy_ #[t,u] ty #[.slice base dn dc,y.v]).run P w=.ok (.int .i64 ((min ys.length dn:Nat):Int)) w' /\
   ∀d j,d++j=D.take l++ys.take (min ys.length dn)++D.drop (l+min ys.length dn)->d.length=xs.length->Sx B (Ars E s d j::F) w':=by
 subst hsz L;obtain⟨i,z,I,hi,J,d2,d3,d4,d5⟩:=QB4 d0
 generalize c8:min ys.length dn=k at *
 have b8:k<=ys.length:=Om
 have C:=Qc2 (P:=P) a0 b8;have b9:ys.length=y.n:=a0.1
 have m:Nat.min y.n dn=k:=by rw[<-b9];exact c8
 have Q:(ys.take k).length=k:=by rw[Ww];omega
 have b':=Z
 have c0:k=0->∀x,(∀a,x=some a->True)->∃w',(Builtin.copy_ #[t,u] ty #[.slice x dn dc,y.v]).run P w=.ok (.int .i64 ((k:Nat):Int)) w' /\
   ∀d j,d++j=(xs++zs).take l++ys.take k++(xs++zs).drop (l+k)->d.length=xs.length->Sx B (Ars E s d j::F) w':=by
  intro h0 x _;subst h0
  have c1:(QAi E (ys.take 0)).toArray = #[]:=by simp[QAi]
  rw[c1]at C;refine⟨w,?_,fun d j he G=>?_⟩
  ·obtain⟨q,n,c⟩:=y;simp only at m
   cases x with
   | none=>simp only[Builtin.copy_];simp[run_underlying I,sizeOf,typeInfo,hi,J,Builtin.lenOf,m,C,goInt]
   | some a=>simp only[Builtin.copy_];simp[run_underlying I,sizeOf,typeInfo,hi,J,Builtin.lenOf,m,C,goInt,storeCells]
  ·obtain⟨g,a1,a2,L⟩:=b';refine⟨g,QA6 (fun q r=>?_) a1,a2,L⟩;obtain⟨p,n,c'⟩:=s;exact r.shift (by rw[he];simp) (by rw[G];exact r.1)
 by_cases c2:k=0
 ·exact c0 c2 base (fun _ _=>trivial)
 have c3:base=s.p.map (·.add (l*E.sz)):=by
  rcases d1 with h|h
  ·exact h
  ·omega
 subst c3;obtain⟨g,⟨h1,a3,A,a4,a5,R,a6⟩,S,a7⟩:=Z;have d6:=A.2.1;rcases A.2.2 with⟨_,h⟩|⟨b,o,pre,post,M,fr,U,V,O,hfr,b7⟩
 ·simp only[Wd]at hlk;omega
 have W:w.heap[b]? = some (.cells (pre++QAi E (xs++zs)++post).toArray M fr):=S _ _ (R _ _ V)
 obtain⟨w',a8,T,a9,a',b0,b1,b2⟩:=QCp (P:=P) b M fr (QAi E (ys.take k)) (o+l*E.sz) 0 (pre++QAi E (xs++zs)++post) w W (by
  have:(l+k)*E.sz<=(xs++zs).length*E.sz:=Ux _ hlk;rw[Nat.add_mul]at this
  simp only[Wd,QAI,O,Q]at this|-;omega) hfr (QJk E _)
 have c4:QAi E (xs++zs)=QAi E ((xs++zs).take l)++QAi E (((xs++zs).drop l).take k)++QAi E ((xs++zs).drop (l+k)):=by
  rw[<-QAU,<-QAU,Wk,<-Lh,Wu,Wu]
 have c5:QE6 (QAi E (ys.take k)) (o+l*E.sz+0) (pre++QAi E (xs++zs)++post)=pre++QAi E ((xs++zs).take l++ys.take k++(xs++zs).drop (l+k))++post:=by
  have:=QF4 (QAi E (ys.take k)) (pre++QAi E ((xs++zs).take l)) (QAi E (((xs++zs).drop l).take k)) (QAi E ((xs++zs).drop (l+k))++post) (by
   rw[QAI,QAI,Ww,Oc,Q,Ow Om])
  rw[Wd,O,QAI,Ww,Ow Om]at this;rw[Kq,c4,QAU,QAU];simp only[Wk]at this|-;exact this
 rw[c5]at T;refine⟨w',?_,fun d j he G=>?_⟩
 ·obtain⟨q,n,c⟩:=y;simp only at m;simp only[Builtin.copy_];simp[run_underlying I,sizeOf,typeInfo,hi,J,Builtin.lenOf,m,C,goInt,U,QCV,a8]
 ·have c6:Sx B (Blk b (pre++QAi E (xs++zs)++post)::F) w:=⟨g,⟨h1,a3,⟨M,fr,V,hfr⟩,a4,a5,R,a6⟩,S,a7⟩
  have X:((xs++zs).take l++ys.take k++(xs++zs).drop (l+k)).length=(xs++zs).length:=by
   simp only[Wd,Ww,Oc]at hlk Q|-;omega
  have:=c6.write (cs':=pre++QAi E ((xs++zs).take l++ys.take k++(xs++zs).drop (l+k))++post) W a9 T (by
   rw[Wd,Wd,Wd,Wd,QAI,QAI,X]) a' b0 b1 b2
  obtain⟨b3,b4,b5,b6⟩:=this;refine⟨b3,QA6 (fun q r=>Ars.of_blk (b:=b) (o:=o) (pre:=pre) (post:=post) (by rw[he];exact r) U O (by rw[G];exact A.1) ?_ (by exact b7)) b4,b5,b6⟩
  have c7:d.length+j.length=xs.length+zs.length:=by
   have Y:=Uh List.length he;rw[X]at Y;simpa using Y
  rw[c7];exact A.2.1
theorem Qcj(s:Sl)(l r m sz:Nat)(hrm:r<=m):(s.cut l r m sz).p=s.p.map (·.add (l*sz))\/(s.cut l r m sz).n=0:=by
 unfold Sl.cut;by_cases h:m=l
 ·right;simp only;omega
 ·left;simp[h]
theorem QSW{P:Program}{t u ty e:TypeId}{sz j:Nat}{z:Ad}[a:QJH P t e sz j z]{E:Enc α}{s y:Sl}{xs zs ys:List α}{l r m:Nat}{F:List HP}{K:Int->WP}
  (k:∀w,Sx B (Ars E s xs zs::F) w->RAr E y ys (mem w)) (b d:List α) (hsz:E.sz=sz:=by rfl) (hrm:r<=m) (hlk:l+min ys.length (r - l)<=xs.length+zs.length) (hl:b.length=xs.length)
  (he:b++d=(xs++zs).take l++ys.take (min ys.length (r - l))++(xs++zs).drop (l+min ys.length (r - l)))
  (h:∀n,Ent B (Ars E s b d::F) (K n)):Ent B (Ars E s xs zs::F) (QdQ P t u ty (s.cut l r m sz).v y.v K):=by
 intro w g
 obtain⟨w',i,hx⟩:=Qfp (P:=P) (u:=u) (ty:=ty) (l:=l) (dn:=r - l) (dc:=(s.cut l r m sz).c) (base:=(s.cut l r m sz).p) a.ok hsz g rfl (k w g) (by
  have:=Qcj s l r m sz hrm;rcases this with h|h
  ·exact .inl h
  ·exact .inr h) (Si hlk)
 exact⟨_,w',i,h _ w' (hx b d he hl)⟩
theorem QSR{P:Program}{t u ty e:TypeId}{k0:IntKind}{sz x:Nat}(S:QI5 P t e sz x=true)(T:P.underlying u=some (.int k0)){E:Enc α}(hsz:E.sz=sz)(U:QFR P e=some (E.f E.zero)){s:Sl}{xs:List α}{n:Nat}{w:World}
  (V:RAr E s xs (mem w)) (a0:0<n) (y:¬s.n+n<=s.c) (hb:(s.n+n)*x<=140737488355328) :
  ∃(k:Nat),s.n+n<=k/\k<=9223372036854775807/\(Builtin.append_ #[t,u] ty #[s.v,.int .i64 (n:Int)]).run P w=.ok (.slice (some ⟨w.heap.size,0,none⟩) (s.n+n) k) (w.drew.alloc (.cells (QAi E xs++QAi E (List.replicate n E.zero)++QJI (E.f E.zero) (k - (s.n+n))).toArray e)):=by
 obtain⟨i,z,A,hi,C,D,G,g,W⟩:=QB4 S;subst C;subst D;obtain⟨p,a,d⟩:=s;simp only at y hb;have X:=growslice_fits (by omega:d<a+n) hb;have Y:a+n<=(a+n)*i.bytes:=Zv _ G
 have I:¬(9223372036854775807<((a:Int)+(n:Int))):=Om
 have J:¬(281474976710656<Builtin.nextslicecap (a+n) d*i.bytes):=Om
 have Z:n*i.bytes<=(a+n)*i.bytes:=Ux _ Om
 have L:¬(281474976710656<(n:Int)*(i.bytes:Int)):=by
  have:((n*i.bytes:Nat):Int)<=281474976710656:=Om
  rw[Int.natCast_mul]at this;omega
 have M:IntKind.i64.wrap (n:Int)=n:=QAC _ Om Om;obtain⟨j,b,l,o,q⟩:=QCQ U
 obtain rfl:j=i:=by rw[hi]at l;exact (W3 l).symm
 obtain rfl:b=z:=by rw[g]at o;exact (W3 o).symm
 have r:=RArr.first (P:=P) (w:=w.drew) (V.2)
 rw[hsz]at r
 have O:∀m,Builtin.zeroCells b.cells m=(QJI b.cells.toList m).toArray:=fun m=>by rw[<-QEg];rfl
 have Q:QAi E (List.replicate n E.zero)=QJI b.cells.toList n:=by rw[<-QEy,q]
 refine⟨grownCap w (a+n) d e,QZw w _ _ _,Qbe w _ _ _ Om,?_⟩;rw[Q,q]
 have R:¬(n*j.size=0):=fun h=>by
  rcases Nat.mul_eq_zero.1 h with h|h
  ·omega
  ·have:=E.pos;omega
 simp only[Builtin.append_];simp[run_underlying A,run_underlying T,sizeOf,typeInfo,zeroValue,hi,g,asInt,asIntOf,M,L,y,I,J,Question.forced,r,newRow,grownCap,O,R];intro h;omega
theorem QiX{P:Program}{t u ty e:TypeId}{k0:IntKind}{sz j:Nat}{z:Ad}[a:QJH P t e sz j z]{E:Enc α}{s:Sl}{xs:List α}{n:Nat}{K:Sl->WP}(C:P.underlying u=some (.int k0))
  (D:∀w,Sx B As w->RAr E s xs (mem w)) (G:0<n) (I:¬s.n+n<=s.c) (hb:(s.n+n)*j<=140737488355328) (hsz:E.sz=sz:=by rfl) (J:E.f E.zero=z:=by rfl)
  (h:∀b,b.n=s.n+n->b.n<=b.c->Ent B (Ar E b (xs++List.replicate n E.zero)::As) (K b)):Ent B As (QTn P t u ty s.v (.int .i64 (n:Int)) K):=by
 intro w g;have i:=D w g;obtain⟨k,l,m,o⟩:=QSR (ty:=ty) a.ok C hsz (by rw[J];exact a.zero) i G I hb;refine⟨⟨some ⟨w.heap.size,0,none⟩,s.n+n,k⟩,_,o,h _ rfl (Si l) _ ?_⟩;have A:=(g.drew).alloc (QAi E xs++QAi E (List.replicate n E.zero)++QJI (E.f E.zero) (k - (s.n+n))) e;obtain⟨p,r,x,y⟩:=A;have L:xs.length=s.n:=i.1;refine⟨p,QA6 (fun q d=>⟨List.replicate (k - (s.n+n)) E.zero,?_⟩) r,x,y⟩;rw[QEy,<-QAU,<-QAU]at d;exact Ars.of_blk (pre:=[]) (post:=[]) (Si d) rfl rfl (by simp;omega) (by simp;omega) m
def BlkS(b:Nat)(cs:Ad):HP:=fun h=>∃e,h b=some (.cells cs.toArray e)
theorem BlkS.blk{b:Nat}{cs:Ad}{h:QBs}(hb:BlkS b cs h):Blk b cs h:=by
 obtain⟨e,hb⟩:=hb;exact⟨e,(0,0),hb,fun i _ h=>by simp at h⟩
theorem QiF{cs:Ad}{e:TypeId}{K:Nat->WP}(h:∀b,Ent B (BlkS b cs::As) (K b)):Ent B As (QCz cs e K):=fun w a=>h _ _ (a.allocQ ⟨e,by simp⟩)
theorem QR2{P:Program}{t e:TypeId}{sz:Nat}{r:Array TypeId}(S:P.underlying t=some (.slice e))(T:QIU P e=some sz){g n c:Nat}{w:World}{cs:Ad}{E:TypeId}(hb:w.heap[g]? = some (.cells cs.toArray E))(W:0<cs.length){y:Sl}
  (G:y.p=none\/y.n=0\/∃b o cs' l fr,y.p=some ⟨b,o,none⟩/\b≠g/\w.heap[b]? = some (.cells cs' l fr)/\0<cs'.size) :
  (Extern.SlicesOverlaps.overlaps #[t,t] r #[.slice (some ⟨g,0,none⟩) n c,y.v]).run P w=.ok (.bool false) w:=by
 obtain⟨q,m,d⟩:=y;simp only at G;rw[show Extern.SlicesOverlaps.overlaps #[t,t] r #[.slice (some ⟨g,0,none⟩) n c,.slice q m d]=(underlying t >>= _) from rfl];simp only[Sem.run_bind,run_underlying S,Result.andThen_ok,QEP T]
 cases q with
 | none=>rfl
 | some a=>
  (try simp only)
  by_cases h0:n=0\/m=0\/sz=0
  ·rw[We h0];rfl
  ·rw[Wb h0];rcases G with h|h|⟨b,o,cs',l,fr,z,A,J,U⟩
   ·cases h
   ·exact absurd (.inr (.inl h)) h0
   ·simp only[Wg]at z;subst z
    have C:w.frozen? ⟨g,0,none⟩=false:=by simp[World.frozen?,hb]
    have s:w.shape? g=some (E,cs.length):=by simp[World.shape?,hb]
    have u:w.shape? b=some (l,cs'.size):=by simp[World.shape?,J]
    have L:w.frozen? ⟨g,cs.length,none⟩=false:=by simp[World.frozen?,hb]
    have M:(g != b)=true:=by simpa using fun h=>A h.symm
    have hv:∀x:Addr,(w.shape? x.block).isSome=true->(noView x).run P w=.ok () w:=fun x hx=>by simp[noView,viewAt,hx]
    have O:(stringish ⟨g,0,none⟩).run P w=.ok false w:=by simp[stringish,C,s,L]
    have j:∃i,(stringish ⟨b,o,none⟩).run P w=.ok i w:=by
     cases D:w.frozen? ⟨b,o,none⟩ with
     | true=>exact⟨true,by simp[stringish,D]⟩
     | false=>exact⟨w.frozen? ⟨b,cs'.size,none⟩,by simp[stringish,D,u]⟩
    obtain⟨i,j⟩:=j
    have Q:(mayBeOne ⟨g,0,none⟩ ⟨b,o,none⟩).run P w=.ok false w:=by
     have V:cs'.size≠0:=Om
     simp only[mayBeOne,Sem.run_bind,O,j,Result.andThen_ok,run_shape,Sem.run_pure,s,u];congr 1;obtain⟨k,I⟩:∃k,cs'.size=k+1:=⟨cs'.size - 1,Om⟩;rw[I];cases i<;>simp
    simp only[Sem.run_bind,run_frozen,C,Result.andThen_ok,M,Bool.and_false,Bool.false_and,Wi,Oa,O7,hv ⟨g,0,none⟩ (by simp[s]),hv ⟨b,o,none⟩ (by simp[u]),Q]
    have R:(g == b)=false:=by simpa using fun h=>A h.symm
    simp[R]
theorem Qj5{P:Program}{g:FuncId}{t e:TypeId}{sz:Nat}{r:Array TypeId}(O:∀args w,(callFunc g args).run P w=((Extern.SlicesOverlaps.overlaps #[t,t] r args).run P w).andThen fun v w'=>.ok (.value v) w')
  (Q:P.underlying t=some (.slice e)) (R:QIU P e=some sz) {i n c:Nat}{cs:Ad}{E:Enc α}{s:Sl}{xs zs:List α}{F:List HP}{l k m:Nat}{K:Bool->WP}(S:0<cs.length) (Z:0<xs.length+zs.length) (a0:k<=m)
  (h:Ent B (Ars E s xs zs::BlkS i cs::F) (K false)):Ent B (Ars E s xs zs::BlkS i cs::F) (QiG P g [.slice (some ⟨i,0,none⟩) n c,(s.cut l k m sz).v] .bool K):=by
 intro w j;obtain⟨T,⟨a,rest,A,⟨U,V,⟨C,p⟩,_,_,q,_⟩,d,D,G⟩,u,W⟩:=id j;have L:w.heap[i]? = some (.cells cs.toArray C):=u _ _ (G _ _ (q _ _ p));refine⟨false,w,?_,h w j⟩;rw[O];have:=QR2 (P:=P) (r:=r) Q R (n:=n) (c:=c) L S (y:=s.cut l k m sz) ?_
 ·show Result.andThen (Sem.run P (Extern.SlicesOverlaps.overlaps #[t,t] r #[.slice (some ⟨i,0,none⟩) n c,(s.cut l k m sz).v]) w) _=_;rw[this];rfl
 ·by_cases z:m=l
  ·right;left;simp only[Sl.cut];omega
  ·rcases A.2.2 with⟨h0,_⟩|⟨b,o,pre,post,I,fr,J,x,X,_,_⟩
   ·left;simp[Sl.cut,z,h0]
   ·right;right;refine⟨b,o+l*sz,_,I,fr,by simp[Sl.cut,z,J,QCV],?_,u _ _ (D _ _ x),?_⟩
    ·intro e;subst e;rcases d b with h|h
     ·rw[x]at h;cases h
     ·rw[q _ _ p]at h;cases h
    ·have h1:=QAI E (xs++zs);have M:=E.pos;have Y:0<(xs++zs).length*E.sz:=Nat.mul_pos (by simp;omega) M;simp only[List.size_toArray,Wd]at *;omega
end Go.Cf
namespace Go.Cf
open Go
variable {B:QBJ}{As:List HP}
theorem Sx.parts{pre F:List HP}{w:World}(C:Sx B (pre++F) w):∃a,QBr pre a/\Sub a (mem w)/\(∀rd:HP,Rds B F rd->rd (Cf.frz w a))/\∀Bs w',Sx ⟨w,a⟩ Bs w'->Sx B (Bs++F) w':=by
 obtain⟨g,v,j,h⟩:=C;obtain⟨a,b,x,hb,n,l,m⟩:=(QAl pre F).1 v;have p:Upd B (uni a b) w:=h.sub (QDe l m);refine⟨a,x,l.trans j,fun rd u=>u w a b hb (m.trans j) n (l.trans j) p,?_⟩;rintro Bs w' ⟨c,hc,y,i⟩
 have key:∀k o,b k=some o->w'.heap[k]? = some o/\c k=none:=by
  intro k o d;have h1:w.heap[k]? = some o:=(m.trans j) k o d;have z:k<w.heap.size:=(W9.1 h1).1
  have A:a k=none:=by
   rcases n k with e|e
   ·exact e
   ·rw[d]at e;cases e
  have:=i.old k z A;exact⟨by rw[this.1];exact h1,this.2⟩
 have q:Dis c b:=fun k=>by
  cases d:b k with
  | none=>exact .inr rfl
  | some o=>exact .inl (key k o d).2
 refine⟨uni c b,(QAl Bs F).2 ⟨c,b,hc,hb,q,QBV _ _,QBU q⟩,QDe y fun k o d=>(key k o d).1,?_⟩;refine⟨by rw[i.os,h.os],by rw[i.tape,h.tape],by rw[i.output,h.output],Oq h.drawn i.drawn,Oq h.size i.size,fun k d h0=>?_⟩;have h1:=p.old k d h0;have r:=QDH.1 h1.2;have s:=i.old k (Ug d h.size) r.1;exact⟨by rw[s.1];exact h1.1,QDH.2 ⟨s.2,r.2⟩⟩
def CtP(ch:List PanicEntry)(P:Program)(f:FuncId)(args:Ad)(rs:Rs)(ss:List Sh)(pre:List HP)(rd:HP)(post:Tup ss->List HP->Prop)(a:List HP->Prop):Prop:=
 ∀(w:World) (h:QBs),QBr pre h->Sub h (mem w)->rd (frz w h)->Calls P f args.toArray w fun e w'=>
  (∃t Bs,e=.returned (rs.mk (Tup.vals ss t))/\post t Bs/\Sx ⟨w,h⟩ Bs w')\/(∃Bs,e=.panicked ch/\a Bs/\Sx ⟨w,h⟩ Bs w')
def Qeg(B:QBJ)(a:List HP->Prop):WP:=fun w=>∃Bs,a Bs/\Sx B Bs w
theorem QTr{a:List HP->Prop}(h:a As):Ent B As (Qeg B a):=fun _ b=>⟨As,h,b⟩
class QiI(ch:outParam (List PanicEntry))(pan:WP->Pan):Prop where
 q:∀Q,(pan Q).q=Q
 ch:∀Q,(pan Q).ch=ch
theorem QJX{ch:List PanicEntry}{pan:WP->Pan}[i:QiI ch pan]{P:Program}{f:FuncId}{args:Ad}{rs:Rs}{ss:List Sh}{pre:List HP}{rd:HP}{post:Tup ss->List HP->Prop}{j:List HP->Prop}{φ:WP->Cur ss->WP}
  (c:∀{Q:WP}{K:Cur ss}{w:World},φ Q K w->@QGy (pan Q) P f args rs ss K w)
  (h:∀B:QBJ,rd (frz B.W B.h0)->Ent B pre (φ (Qeg B j) (Cur.ofT ss (Ret B post)))):CtP ch P f args rs ss pre rd post j:=by
 intro w g k l m;have:=c (h ⟨w,g⟩ m w (Sx.start k l));unfold QGy at this;refine this.mono ?_;rintro e w' (⟨t,he,b⟩|⟨he,d⟩)
 ·rw[Cur.app_ofT]at b;obtain⟨Bs,a,hx⟩:=b;exact .inl ⟨t,Bs,he,a,hx⟩
 ·rw[i.q]at d;rw[i.ch]at he;obtain⟨Bs,a,hx⟩:=d;exact .inr ⟨Bs,he,a,hx⟩
section
variable {ch:List PanicEntry}{pan:WP->Pan} [pf:QiI ch pan] {P:Program}{f:FuncId}{args:Ad}{rs:Rs}{pre:List HP}{rd:HP}{ppost:List HP->Prop}
theorem QjO{post:Tup []->List HP->Prop}{φ:WP->WP->WP}(c:∀{Q K:WP}{w:World},φ Q K w->@QGy (pan Q) P f args rs [] K w)
  (h:∀B:QBJ,rd (frz B.W B.h0)->Ent B pre (φ (Qeg B ppost) (Ret B post ()))):CtP ch P f args rs [] pre rd post ppost:=QJX (ss:=[]) (φ:=φ) c h
theorem Qjd{s:Sh}{post:Tup [s]->List HP->Prop}{φ:WP->(s.ty->WP)->WP}(c:∀{Q:WP}{K:s.ty->WP}{w:World},φ Q K w->@QGy (pan Q) P f args rs [s] K w)
  (h:∀B:QBJ,rd (frz B.W B.h0)->Ent B pre (φ (Qeg B ppost) fun x=>Ret B post (x,()))):CtP ch P f args rs [s] pre rd post ppost:=QJX (ss:=[s]) (φ:=φ) c h
end
theorem QUF{ch:List PanicEntry}[p:Pan]{P:Program}{f:FuncId}{args:Ad}{rs:Rs}{ss:List Sh}{pre F:List HP}{rd:HP}{post:Tup ss->List HP->Prop}{d:List HP->Prop}{K:Cur ss}(l:CtP ch P f args rs ss pre rd post d)
  (m:Pan.ch=ch) (b:As.Perm (pre++F)) (n:Rds B F rd) (h:∀t Bs,post t Bs->Ent B (Bs++F) (Cur.app ss K t)) (o:∀Bs,d Bs->Ent B (Bs++F) Pan.q):Ent B As (QGy P f args rs ss K):=by
 intro w g;obtain⟨a,i,j,k,hx⟩:=(g.perm b).parts;unfold QGy;refine (l w a i j (k rd n)).mono ?_;rintro e w' (⟨t,Bs,he,b,c⟩|⟨Bs,he,b,c⟩)
 ·exact .inl ⟨t,he,h t Bs b w' (hx Bs w' c)⟩
 ·exact .inr ⟨by rw[m];exact he,o Bs b w' (hx Bs w' c)⟩
theorem QTq{ch:List PanicEntry}{pan:WP->Pan}[b:QiI ch pan]{Q:WP}{P:Program}{f:FuncId}{args:Ad}{rs:Rs}{ss:List Sh}{pre G:List HP}{rd:HP}{post:Tup ss->List HP->Prop}{a:List HP->Prop}{K:Cur ss}[s:Split pre As G]
  (c:CtP ch P f args rs ss pre rd post a) (d:Rds B G rd) (h:∀t Bs,post t Bs->Ent B (Bs++G) (Cur.app ss K t)) (g:∀Bs,a Bs->Ent B (Bs++G) Q):Ent B As (@QGy (pan Q) P f args rs ss K):=
 @QUF B As ch (pan Q) P f args rs ss pre G rd post a K c (b.ch Q) s.perm d h (by rw[b.q];exact g)
end Go.Cf
namespace Go.Cf
open Go
set_option linter.unusedVariables false
structure QX5 where
 g:FuncId
 tf:TypeId
 cd:Int
structure QRZ(P:Program)(ch:List PanicEntry)(c:QX5):Prop where
 body:QBN P c.g=true
 calm:∀(ad:Addr) (w:World),CallsDIn (FF none) 0 P c.g #[.pointer (some ad)] .returning w fun e u' w'=>e=.returned (.tuple #[])/\u'=.returning/\w'=w
 caught:∀(ad:Addr) (w:World),(∃v,(w.alloc (.cells #[] c.tf)).cell? ad=some v)->(w.alloc (.cells #[] c.tf)).frozen? ad=false ->
  CallsDIn (FF none) 0 P c.g #[.pointer (some ad)] (.panicking ch) w fun e u' w'=>e=.returned (.tuple #[])/\settle u'=.returning/\w'=(w.alloc (.cells #[] c.tf)).setCell ad (.int .i64 c.cd)
def QZU(c:QX5)(t:Nat):Code->Bool
 | .region _ ops false=>(match ops.toList with
  | [o]=>(match o.op,o.guard with
   | .defer d,none=>(match d.callee,d.args.toList with
    | .value (.func g),[.tmp u]=>Nat.beq g c.g&&Nat.beq u t&&o.dst.isNone
    | _,_=>false)
   | _,_=>false)
  | _=>false)
 | _=>false
def QiL(pan:WP->Pan)(c:QX5)(P:Program)(dp:Af)(fn:Func)(args:Ad)(ss:List Sh)(R:Cur ss):WP:=
 match fn.body,fn.results.toList,fn.resultTypes.toList with
 | some (.seq r0 (.seq r1 rest)),[.cell t u],[u']=>
  bif Nat.beq u u'&&Nat.ble args.length fn.ntmps&&QZU c t r1 then
   wpC P fn.ntmps dp (QLm P fn fn.ntmps) r0 (QKd args 0) (fun ρ=>bif has ρ t && !(QB5 t (wr ρ rest [])) then (match gv ρ t with
    | .pointer (some ad)=>
     let a:WP:=QIq P [(.cell t u,u)] [(t,gv ρ t)] [] fun vs=>Cur.appV ss R vs
     let b:=pan (QCz [] c.tf fun _=>QBE ad (.int .i64 c.cd) a)
     @wpC b P fn.ntmps dp (@QLm b P fn fn.ntmps) rest ρ (fun _=>a) [] (fun _=>a)
    | _=>bad) else bad) [] (fun _=>bad)
  else bad
 | _,_,_=>bad
theorem QQ0(c:Code):LeavesC c fun _=>True:=by
 induction c with
 | region _ ops _=>exact fun _ _ _ _ _=>trivial
 | seq a b iha ihb=>exact⟨iha,ihb⟩
 | cond _ a b iha ihb=>exact⟨iha,ihb⟩
 | block _ b ih=>exact ih
 | scope b ih=>exact ih
 | loop b ih=>exact ih
 | _=>trivial
theorem QfM{P:Program}{N:Nat}{dl:List Deferred}{fn:Func}{a:Act}{ρ:Env}{w:World}(l:Fits N dl ρ a)(hl:fn.results.toList.length=fn.resultTypes.toList.length){R:Cur (QAW P fn.resultTypes.toList).2}
  (h:QIq P (fn.results.toList.zip fn.resultTypes.toList) ρ [] (fun vs=>Cur.appV _ R vs) w):∃v,(results fn a.tmps).run P w=.ok v w/\∃t,v=(QAW P fn.resultTypes.toList).1.mk (Tup.vals _ t)/\Cur.app _ R t w:=by
 obtain⟨vs,cs,i,k,b⟩:=QM4 l _ _ _ _ _ hl h;obtain⟨t,c,b⟩:=Cur.appV_app _ _ _ _ b;refine⟨_,?_,t,rfl,b⟩;simp only[W6]at c;rw[c,QgD k]
 have j:∀g:ResultVar->Sem Value,(∀r,g r=QLl a.tmps r) ->
   (do let vs <- fn.results.mapM g;pure (if h:vs.size=1 then vs[0] else .tuple vs):Sem Value).run P w=.ok (if h:vs.toArray.size=1 then vs.toArray[0] else .tuple vs.toArray) w:=by
  intro g d;obtain rfl:g=QLl a.tmps:=funext d;rw[Lj];simp only[Sem.run_bind,Sem.run_map,i,Result.andThen_ok,Sem.run_pure]
 exact j _ fun r=>by cases r<;>rfl
theorem Qba{c:QX5}{t:Nat}{r:Code}(h:QZU c t r=true):∃id o d,r=.region id #[o] false/\o.op=.defer d/\o.guard=none/\o.dst=none/\d.callee=.value (.func c.g)/\d.args = #[.tmp t]:=by
 unfold QZU at h;split at h
 ·rename_i id ops
  split at h
  ·rename_i o a
   split at h
   ·rename_i d b i
    split at h
    ·rename_i g u j k
     simp only[Wf,Option.isNone_iff_eq_none]at h;obtain⟨⟨l,m⟩,n⟩:=h;obtain rfl:=Wo l;obtain rfl:=Wo m;exact⟨id,o,d,by rw[show ops = #[o] from Zt (Si a)],b,i,n,j,Zt (Si k)⟩
    ·cases h
   ·cases h
  ·cases h
 ·cases h
set_option maxHeartbeats 1000000 in
theorem QXC{ch:List PanicEntry}{pan:WP->Pan}(E:∀Q,(pan Q).q=Q)(b9:∀Q,(pan Q).ch=ch){P:Program}(x:QHG P)(a0:P.follows .mixedOrders=true){c:QX5}(hc:QRZ P ch c){f:FuncId}{fn:Func}(b':P.funcs[f]? = some fn){dp:Af}{args:Ad}{rs:Rs}{ss:List Sh}
  (c0:QAW P fn.resultTypes.toList=(rs,ss)) {K:Cur ss}{w:World}(h:QiL pan c P dp fn args ss K w):QAX P f args rs ss K w:=by
 unfold QiL at h;obtain⟨ts,l⟩:∃ts,fn.resultTypes.toList=ts:=⟨_,rfl⟩
 cases hb:fn.body with
 | none=>rw[hb]at h;exact h.elim
 | some cd=>
 cases m:fn.results.toList with
 | nil=>rw[hb,m]at h;cases cd with
  | seq I cd=>cases cd<;>exact h.elim
  | _=>exact h.elim
 | cons rv rl=>
 cases ts with
 | nil=>rw[hb,m,l]at h;cases cd with
  | seq I cd=>cases cd<;>first|exact h.elim|(cases rv<;>cases rl<;>exact h.elim)
  | _=>exact h.elim
 | cons O ul=>
 rw[hb,m,l]at h;cases cd<;>try exact h.elim
 rename_i I cd
 cases cd<;>try exact h.elim
 rename_i c1 rest
 cases rv<;>try exact h.elim
 rename_i t u
 cases rl<;>try exact h.elim
 cases ul<;>try exact h.elim
 simp only at h
 obtain⟨rfl,rfl⟩:(QAW P fn.resultTypes.toList).1=rs/\(QAW P fn.resultTypes.toList).2=ss:=by rw[c0];exact⟨rfl,rfl⟩
 have s:=(QAG h).1
 replace h:=(QAG h).2
 simp only[Wf]at s;obtain⟨⟨a3,S⟩,a4⟩:=s;obtain rfl:=Wo a3;have S:=Kb S;obtain⟨id,o,d,rfl,T,U,V,a5,a6⟩:=Qba a4
 have a':fn.results.toList.length=fn.resultTypes.toList.length:=by rw[m,l];rfl
 have b0:fn.results.toList.zip fn.resultTypes.toList=[(.cell t u,u)]:=by rw[m,l];rfl
 have b1:Fits fn.ntmps [] (QKd args 0) { tmps:=args.toArray++Array.replicate (fn.ntmps - args.toArray.size) undef,defers:=[] }:=by
  refine⟨by simp;omega,rfl,fun t l=>?_⟩;obtain⟨j,hj,hv⟩:=QNP args 0 t l
  have b2:t=j:=Om
  subst b2;have b3:t<args.length:=(Wc.1 hv).1;rw[Ud (Si b3)];simpa using hv
 show Calls P f args.toArray w _;refine (QGF (rn:=none) (n:=0)).1 (callsIn_of_wp_defers b' hb trivial ?_);refine wpIn_seq (QF3 (rn:=none) x (QMH x a0 fn _) I (Fr:=fun _=>True) (fun _ _ _ _ E=>E.elim) h b1 (QQ0 _) trivial ?_ (fun _ _ _ _ _ _ h=>h.elim) (fun _ _ _ _ _ h=>h.elim));intro ρ b p y _ h1;obtain⟨z,h1⟩:=QAG h1;simp only[Wf,W2]at z;cases hv:gv ρ t <;> (try (rw[hv]at h1;exact h1.elim))
 rename_i q
 cases q with
 | none=>rw[hv]at h1;exact h1.elim
 | some ad=>
 rw[hv]at h1;simp only at h1;have W:=y.get t z.1;rw[hv]at W;show (Code.seq _ rest).wpIn (FF none) 0 P _ b p;refine wpIn_seq (wpIn_region ?_);show wpOpsIn (FF none) 0 P #[o] _ [0] b p
 have b4:Region.wanted o (yielded #[o] b.tmps)=true:=by simp[Region.wanted,U]
 have k:(execOp b.eval o).run P p=.ok (.defer { target:=.fn (.func c.g) #[],args:=#[.pointer (some ad)] }) p:=by
  obtain⟨dst,op,c2,pos,c3,guard⟩:=o;simp only at T U V;subst T;simp only[execOp,resolve,a5,a6,Act.eval,Deferred.ofValue,Sem.run_bind,Sem.run_pure,Result.andThen_ok];simp[Act.eval,O4,W]
 simp only[wpOpsIn,Zj,Ov,b4,O7];refine⟨fun _ _=>trivial,?_⟩;rw[show o.semAt (FF none).round b.eval=execOp b.eval o from rfl,k,Oper.uponIn_defer,V];have b5:b.defers=[]:=y.defs;generalize Z:({ target:=.fn (.func c.g) #[],args:=#[.pointer (some ad)] }:Deferred)=D
 have b6:({ b with defers:=D::b.defers }:Act).put none undef={ b with defers:=[D] }:=by rw[b5];rfl
 rw[b6];have X:Fits fn.ntmps [D] ρ { b with defers:=[D] }:=⟨y.size,rfl,fun t l=>y.get t l⟩
 -- the deferred call, and the result behind it
 have inv:∀w',(invoke (.fn (.func c.g) #[]) #[.pointer (some ad)]).run P w'=.ok (.enter c.g #[.pointer (some ad)]) w':=fun w'=>by
  have A:=hc.body;unfold QBN at A
  cases C:P.funcs[c.g]? with
  | none=>rw[C]at A;cases A
  | some fd=>
   rw[C]at A;have b7:=x c.g fd C
   have b8:fd.body.isNone=false:=by cases c4:fd.body<;>simp_all
   simp only[invoke,callFunc,Sem.run_bind,Sem.run_pure,Result.andThen_ok,run_program,C,b7,b8,Wi,Oa,Array.append_empty]
 have Y:∀(a:Act) (w':World),Keep fn.ntmps [D] ρ (wr ρ rest []) a->QIq P [(.cell t u,u)] [(t,.pointer (some ad))] [] (fun vs=>Cur.appV _ K vs) w' ->
   ∃v,(results fn a.tmps).run P w'=.ok v w'/\∃r,v=(QAW P fn.resultTypes.toList).1.mk (Tup.vals _ r)/\Cur.app _ K r w':=by
  intro a w' i k;refine QfM (N:=fn.ntmps) (dl:=[D]) (ρ:=[(t,.pointer (some ad))]) ⟨i.size,i.defs,fun a1 G=>?_⟩ a' (by rw[b0];exact k);simp only[QDC]at G;simp only[QCv]
  cases hb:Nat.beq t a1 with
  | false=>rw[hb]at G;cases G
  | true=>
   obtain rfl:=Wo hb;rw[i.get t z.1 z.2,hv];rfl
 have calm:∀(a:Act) (w':World),a.defers=[D]->Keep fn.ntmps [D] ρ (wr ρ rest []) a->QIq P [(.cell t u,u)] [(t,.pointer (some ad))] [] (fun vs=>Cur.appV _ K vs) w' ->
   LeavesIn (FF none) 0 P fn a.tmps (fun e w'=>∃t,e=.returned ((QAW P fn.resultTypes.toList).1.mk (Tup.vals _ t))/\Cur.app _ K t w') a.defers .returning w':=by
  intro a w' J i k;rw[J,<-Z];refine leavesIn_cons (by simp) (by simp) (inv w') (fun _ _=>trivial) ((hc.calm ad w').mono ?_);rintro e O a7 ⟨rfl,rfl,rfl⟩;obtain⟨v,m,r,rfl,s⟩:=Y a _ i k;exact⟨_,m,r,rfl,s⟩
 show rest.wpIn (FF none) 0 P (bodyPostDIn (FF none) 0 P fn _) _ p;refine @QF3 P none [D] (pan _) x fn.ntmps dp _ (@QMH (pan _) P x a0 fn fn.ntmps) rest (Keep fn.ntmps [D] ρ (wr ρ rest [])) ρ _ _ [] _ p _ ?_ h1 X (QHL rest [] fun t l=>l) (X.keep _) ?_ (fun _ _ _ _ _ _ h=>h.elim) ?_
 ·intro a w' J i R;rw[E]at R;obtain⟨hx,a8,_,k⟩:=R;show LeavesIn (FF none) 0 P fn a.tmps _ a.defers (.panicking _) w';rw[J,<-Z,b9];refine leavesIn_cons (by simp) (by simp) (inv w') (fun _ _=>trivial) ((hc.caught ad w' hx a8).mono ?_);rintro e O a7 ⟨rfl,a9,rfl⟩;obtain⟨v,m,r,rfl,s⟩:=Y a _ i k;show LeavesIn (FF none) 0 P fn a.tmps _ [] (settle O) _;rw[a9];exact⟨_,m,r,rfl,s⟩
 ·intro a2 L w' M i k;exact calm L w' M.defs i k
 ·intro a2 L w' M i k;exact calm L w' M.defs i k
variable {B:QBJ}{As F:List HP}
theorem Sx.allocO{w:World}(h:Sx B As w){o:Obj}{Q:HP}(p:Q (fun k=>if k=w.heap.size then some o else none)):Sx B (Q::As) (w.alloc o):=by
 obtain⟨g,l,i,a⟩:=h
 have m:g w.heap.size=none:=by
  cases n:g w.heap.size with
  | none=>rfl
  | some o=>have:=i _ _ n;simp[mem]at this
 have j:Dis (fun k=>if k=w.heap.size then some o else none) g:=fun k=>by
  by_cases he:k=w.heap.size
  ·subst he;exact .inr m
  ·exact .inl (by simp[he])
 refine⟨uni (fun k=>if k=w.heap.size then some o else none) g,⟨_,g,p,l,j,QBV _ _,QBU j⟩,?_,?_⟩
 ·refine QDe (fun k o b=>?_) (fun k o b=>?_)
  ·by_cases he:k=w.heap.size
   ·subst he;simp only[O7,Wg]at b;rw[<-b];show (w.heap.push _)[w.heap.size]? = _;simp
   ·simp[he]at b
  ·have h1:=i _ _ b;have c:k<w.heap.size:=(W9.1 h1).1;show (w.heap.push _)[k]? = some o;rw[Z4 c,<-h1];exact (O9 c).symm
 ·refine⟨a.os,a.tape,a.output,a.drawn,by have:=a.size;simp;omega,fun k d h0=>?_⟩;have c:k<w.heap.size:=Ug d a.size;have:=a.old k d h0;refine⟨?_,QDH.2 ⟨by simp;omega,this.2⟩⟩;show (w.heap.push _)[k]? = _;rw[Z4 c,<-this.1];exact (O9 c).symm
theorem Sx.writeO{P Q:HP}{rest:List HP}{w w':World}{b:Nat}{o':Obj}(h:Sx B (P::rest) w)(y:∀g,P g->∃o,g b=some o)(z:Q (fun k=>if k=b then some o' else none))
  (hn:∀k,k≠b->w'.heap[k]? = w.heap[k]?) (hb:w'.heap[b]? = some o') (A:w'.os=w.os) (C:w'.tape=w.tape) (a:w'.output=w.output) (hsz:Szd w w') :
  Sx B (Q::rest) w':=by
 obtain⟨g,⟨h1,j,q,r,d,s,l⟩,u,c⟩:=h;obtain⟨D,m⟩:=y _ q
 have n:j b=none:=by
  rcases d b with e|e
  ·rw[m]at e;cases e
  ·exact e
 have v:∀k,k<B.W.heap.size->B.h0 k=none->k≠b:=fun k i h0 e=>by
  subst e;have:=(c.old k i h0).2;rw[s _ _ m]at this;cases this
 refine⟨uni (fun k=>if k=b then some o' else none) j,?_,?_,?_⟩
 ·refine⟨_,j,z,r,fun k=>?_,QBV _ _,QBU fun k=>?_⟩ <;>
  ·by_cases e:k=b
   ·subst e;exact .inr n
   ·exact .inl (by simp[e])
 ·refine QDe (fun k o a=>?_) (fun k o a=>?_)
  ·by_cases e:k=b
   ·subst e;simp only[O7,Wg]at a;rw[<-a];exact hb
   ·simp[e]at a
  ·have i:k≠b:=fun e=>by subst e;rw[n]at a;cases a
   show w'.heap[k]? = some o;rw[hn k i];exact u _ _ (l _ _ a)
 ·refine⟨by rw[A,c.os],by rw[C,c.tape],by rw[a,c.output],Oq c.drawn hsz.2,by rw[hsz.1];exact c.size,fun k i h0=>?_⟩;have p:=v k i h0;have:=c.old k i h0;refine⟨by rw[hn k p];exact this.1,QDH.2 ⟨by simp[p],?_⟩⟩
  cases x:j k with
  | none=>rfl
  | some o=>rw[l _ _ x]at this;cases this.2
section
variable {β:Type}
def QB3:List (Int×β)->Int->Option β
 | [],_=>none
 | p::l,k=>if k=p.1 then some p.2 else QB3 l k
def QMJ:List (Int×β)->Int->β->List (Int×β)
 | [],k,v=>[(k,v)]
 | p::l,k,v=>if k=p.1 then (k,v)::l else p::QMJ l k v
def QTE(f:β->Value):List (Int×β)->Int->Nat->Option (Nat×Value)
 | [],_,_=>none
 | p::l,k,i=>if k=p.1 then some (i,f p.2) else QTE f l k (i+1)
theorem QNY(f:β->Value)(k:Int):∀(b:List (Int×β)) (c:List MapEntry) (i:Nat),c.map (fun e=>(e.key,e.val))=b.map (fun p=>(Value.int .i64 p.1,f p.2))->Instr.findNow (.int .i64) (.int .i64 k) c i=some (QTE f b k i)
 | [],[],_,_=>rfl
 | [],_::_,_,h=>by cases h
 | _::_,[],_,h=>by cases h
 | p::b,e::c,i,h=>by
  simp only[U9,List.cons.injEq,Lm]at h;obtain⟨⟨h1,d⟩,g⟩:=h;have j:=QNY f k b c (i+1) g
  have l:Instr.sameNow (.int .i64) (.int .i64 k) e.key=some (k == p.1):=by rw[h1];simp[Instr.sameNow]
  simp only[Instr.findNow,l,QTE];by_cases a:k=p.1
  ·have:(k == p.1)=true:=Si a
   rw[this,We a,d]
  ·have:(k == p.1)=false:=Si a
   rw[this,Wb a];exact j
theorem QGD(f:β->Value)(k:Int):∀(a:List (Int×β)) (i:Nat),(QB3 a k=none/\QTE f a k i=none/\∀x,QMJ a k x=a++[(k,x)]) \/
  ∃j v,QTE f a k i=some (i+j,f v)/\a[j]? = some (k,v)/\QB3 a k=some v/\∀x,QMJ a k x=a.set j (k,x)
 | [],_=>.inl ⟨rfl,rfl,fun _=>rfl⟩
 | p::a,i=>by
  by_cases b:k=p.1
  ·refine .inr ⟨0,p.2,by simp[QTE,b],by simp[b],by simp[QB3,b],fun x=>by simp[QMJ,b]⟩
  ·rcases QGD f k a (i+1) with⟨h1,c,d⟩|⟨j,v,h1,c,d,g⟩
   ·exact .inl ⟨by simp[QB3,b,h1],by simp[QTE,b,c],fun x=>by simp[QMJ,b,d]⟩
   ·exact .inr ⟨j+1,v,by simp only[QTE,b,Oa,h1,Wg,Lm,and_true];omega,Si c,by simp[QB3,b,d],fun x=>by simp[QMJ,b,g]⟩
end
def QQl(s:Sh)(r:Option Nat)(c:List (Int×s.ty)):HP:=fun h=>∃b a clock,r=some b/\h b=some (.map a clock)/\a.toList.map (fun e=>(e.key,e.val))=c.map (fun p=>(Value.int .i64 p.1,s.mk p.2))
class OwnM(s:Sh)(r:Option Nat)(As:List HP)(kvs:outParam (List (Int×s.ty)))(F:outParam (List HP)):Prop where
 perm:As.Perm (QQl s r kvs::F)
instance OwnM.head(s:Sh)(r:Option Nat)(a:List (Int×s.ty))(As:List HP):OwnM s r (QQl s r a::As) a As:=⟨O6 _⟩
instance OwnM.tail(s:Sh)(r:Option Nat)(a:List (Int×s.ty))(A:HP)(As F:List HP)[o:OwnM s r As a F]:OwnM s r (A::As) a (A::F):=⟨(o.perm.cons A).trans (List.Perm.swap _ _ _)⟩
class Qg3(P:Program)(t:TypeId)(s:Sh)(z:outParam s.ty):Prop where
 ok:∃kt e,P.underlying t=some (.map kt e)/\P.underlying kt=some (.int .i64)/\(P.info? e).bind (·.zero)=some (s.mk z)
variable {P:Program}{t:TypeId}
theorem Qd1{e:TypeId}{z:Value}(h:(P.info? e).bind (·.zero)=some z)(w:World):(zeroValue e).run P w=.ok z w:=by
 cases hi:P.info? e with
 | none=>rw[hi]at h;cases h
 | some i=>
  rw[hi]at h;have h:i.zero=some z:=h;simp[zeroValue,QVh hi,h]
theorem QXN{s:Sh}{z:s.ty}(m:Qg3 P t s z){r:Option Nat}{a:List (Int×s.ty)}{w:World}(x:QQl s r a (mem w))(k:Int)(c:Bool) :
  (Instr.lookup t (.map r) (.int .i64 k) c).run P w=.ok (if c then .tuple #[s.mk ((QB3 a k).getD z),.bool (QB3 a k).isSome] else s.mk ((QB3 a k).getD z)) w:=by
 obtain⟨l,e,g,h,o⟩:=m.ok;obtain⟨b,i,clock,rfl,hb,p⟩:=x;have hb:w.heap[b]? = some (.map i clock):=hb;have d:=MapKept.run_findKey (P:=P) (w:=w) h (QNY (s.mk) k a i.toList 0 p);have hc:∀e,(Instr.checkKey e 10000 l (.int .i64 k)).run P w=.ok () w:=fun e=>MapKept.run_checkKey (n:=9999) h (by simp[MapKept.IsKey]) e;rcases QGD s.mk k a 0 with⟨h1,q,_⟩|⟨j,v,h1,_,u,_⟩
 ·rw[q]at d;simp[Instr.lookup,run_underlying g,MapKept.run_getObj_map hb,hc,d,Qd1 o,h1]
 ·rw[h1]at d;simp[Instr.lookup,run_underlying g,MapKept.run_getObj_map hb,hc,d,u]
theorem QU5{s:Sh}{r:Option Nat}{a:List (Int×s.ty)}{g h:QBs}(j:QQl s r a g)(k:Sub g h):QQl s r a h:=by
 obtain⟨b,c,clock,h1,d,i⟩:=j;exact⟨b,c,clock,h1,k _ _ d,i⟩
theorem QdK(s:Sh){z:s.ty}{r:Option Nat}{a:List (Int×s.ty)}[m:Qg3 P t s z][f:OwnM s r As a F]{k:Int}{K:s.ty->Bool->WP}
  (h:Ent B As (K ((QB3 a k).getD z) (QB3 a k).isSome)):Ent B As (Qgw P t (.map r) (.int .i64 k) s K):=by
 intro w b;obtain⟨g,c,d⟩:=(b.perm f.perm).head;exact⟨_,_,w,QXN m (QU5 c d) k true,h w b⟩
theorem Qhm(s:Sh){z:s.ty}{r:Option Nat}{b:List (Int×s.ty)}[m:Qg3 P t s z][f:OwnM s r As b F]{k:Int}{K:s.ty->WP}
  (h:Ent B As (K ((QB3 b k).getD z))):Ent B As (QLu P (Instr.lookup t (.map r) (.int .i64 k) false) s K):=by
 intro w a;obtain⟨g,c,d⟩:=(a.perm f.perm).head;exact⟨_,w,QXN m (QU5 c d) k false,h w a⟩
theorem QiQ(s:Sh){z:s.ty}{r:Option Nat}{c:List (Int×s.ty)}[m:Qg3 P t s z][f:OwnM s r As c F]{k:Int}(v:s.ty){x:Value}{K:WP}(hx:x=s.mk v:=by rfl)
  (h:Ent B (QQl s r (QMJ c k v)::F) K):Ent B As (Qjs P t (.map r) (.int .i64 k) x K):=by
 intro w M;subst hx;have E:=M.perm f.perm;obtain⟨g,p,O⟩:=E.head;obtain⟨Q,e,C,q,Y⟩:=m.ok;have a2:=p;obtain⟨b,a,clock,rfl,hb,d⟩:=QU5 p O;have hb:w.heap[b]? = some (.map a clock):=hb;have y:=MapKept.run_findKey (P:=P) (w:=w) q (QNY (s.mk) k c a.toList 0 d);have hc:∀e,(Instr.checkKey e 10000 Q (.int .i64 k)).run P w=.ok () w:=fun e=>MapKept.run_checkKey (n:=9999) q (by simp[MapKept.IsKey]) e
 have G:∀o',QQl s (some b) (QMJ c k v) (fun k=>if k=b then some o' else none)->Sx B (QQl s (some b) (QMJ c k v)::F) { w with heap:=w.heap.setIfInBounds b o' }:=fun o' L=>by
  obtain⟨R,S⟩:=MapKept.heap_set (o':=o') hb;exact E.writeO (b:=b) (fun g p=>by obtain⟨Z,a0,a1,T,h1,_⟩:=p;cases T;exact⟨_,h1⟩) L (fun k q=>S k q) R rfl rfl rfl ⟨by simp,Wt _⟩
 rcases QGD s.mk k c 0 with⟨h1,u,D⟩|⟨j,v0,h1,u,D,U⟩
 ·rw[u]at y;refine⟨{ w with heap:=w.heap.setIfInBounds b (.map (a.push ⟨.int .i64 k,s.mk v,clock⟩) (clock+1)) },?_,h _ (G _ ?_)⟩
  ·simp[Instr.mapUpdate,run_underlying C,MapKept.run_getObj_map hb,hc,y,MapKept.run_setObj_map _ hb]
  ·exact⟨b,a.push ⟨.int .i64 k,s.mk v,clock⟩,clock+1,rfl,by simp,by rw[D,Array.toList_push,Uw,Uw,d];rfl⟩
 ·rw[h1]at y
  have V:a.toList.length=c.length:=by simpa using Uh List.length d
  have hj:j<a.toList.length:=by rw[V];exact (Wc.1 u).1
  obtain⟨o,A⟩:∃o,a.toList[j]? = some o:=⟨_,Wa hj⟩
  have W:a[j]? = some o:=by rw[<-A];simp
  have X:o.key=.int .i64 k:=by
   have I:=Uh (fun l=>l[j]?) d;simp only[Ol,A,u,U4,Wg,Lm]at I;exact I.1
  refine⟨{ w with heap:=w.heap.setIfInBounds b (.map (a.modify j fun e=>{ e with key:=.int .i64 k,val:=s.mk v }) clock) },?_,h _ (G _ ?_)⟩
  ·simp[Instr.mapUpdate,run_underlying C,MapKept.run_getObj_map hb,hc,y,W,X,Instr.keyThatStays,Instr.sameBits,MapKept.run_setObj_map _ hb]
  ·refine⟨b,a.modify j fun e=>{ e with key:=.int .i64 k,val:=s.mk v },clock,rfl,by simp,?_⟩;rw[U,Array.toList_modify,Le]
   have:(a.toList.modify j fun e=>{ e with key:=.int .i64 k,val:=s.mk v })=a.toList.set j ⟨.int .i64 k,s.mk v,o.born⟩:=by
    apply Uf;intro i;rw[List.getElem?_modify,List.getElem?_set];by_cases J:j=i
    ·subst J;rw[A,We rfl,We hj];simp
    ·simp[J]
   rw[this,Le,d]
theorem Qcu(s:Sh)(b:Nat):QQl s (some b) [] (fun k=>if k=b then some (Obj.map #[] 0) else none):=⟨b,#[],0,rfl,by simp,rfl⟩
theorem QkF(s:Sh){K:Option Nat->WP}(h:∀b,Ent B (QQl s (some b) []::As) (K (some b))):Ent B As (QLu P (Instr.makeMap t none) .map K):=fun w a=>
 ⟨some w.heap.size,_,rfl,h _ _ (a.allocO (Qcu s _))⟩
end Go.Cf
namespace Go.Cf
open Go
variable {B:QBJ}{As:List HP}
theorem ca3{s t u:Sh}{K:s.ty->t.ty->u.ty->WP}{x:s.ty}{y:t.ty}{z:u.ty}{v:Unit}(h:Ent B As (K x y z)):Ent B As (Cur.app [s,t,u] K (x,y,z,v)):=h
theorem ca4{s t u r:Sh}{K:s.ty->t.ty->u.ty->r.ty->WP}{x:s.ty}{y:t.ty}{z:u.ty}{q:r.ty}{v:Unit}(h:Ent B As (K x y z q)):Ent B As (Cur.app [s,t,u,r] K (x,y,z,q,v)):=h
theorem Qif{P:Program}{f:FuncId}{args:Ad}{rs:Rs}{s t u r:Sh}{pre:List HP}{rd:HP}{post:Tup [s,t,u,r]->List HP->Prop}{φ:(s.ty->t.ty->u.ty->r.ty->WP)->WP}(c:∀{K:s.ty->t.ty->u.ty->r.ty->WP}{w:World},φ K w->QAX P f args rs [s,t,u,r] K w)
  (h:∀B:QBJ,rd (frz B.W B.h0)->Ent B pre (φ fun x y z q=>Ret B post (x,y,z,q,()))):Ct P f args rs [s,t,u,r] pre rd post:=QAm (ss:=[s,t,u,r]) c h
end Go.Cf
namespace Go.Cf
open Go
variable {B:QBJ}{As:List HP}{P:Program}
def QVM(r:Ac)(s:ByteArray)(pos:Nat):HP:=fun h=>∃b,r=some ⟨b,0,none⟩/\h b=some (.stringIter s pos)
class OwnI(r:Ac)(As:List HP)(s:outParam ByteArray)(pos:outParam Nat)(F:outParam (List HP)):Prop where
 perm:As.Perm (QVM r s pos::F)
instance OwnI.head(r:Ac)(s:ByteArray)(pos:Nat)(As:List HP):OwnI r (QVM r s pos::As) s pos As:=⟨O6 _⟩
theorem Qhb{t:TypeId}{s:ByteArray}{K:Ac->WP}(b:P.underlying t=some .string)(h:∀r,Ent B (QVM r s 0::As) (K r)):Ent B As (QLu P (Instr.range t (.string s)) .ptr K):=fun w a=>by
 refine⟨some ⟨w.heap.size,0,none⟩,w.alloc (.stringIter s 0),?_,h _ _ (a.allocO ⟨_,rfl,by simp⟩)⟩;have hn:∀i:Int,(newObj (.stringIter s 0)).run P w=.ok w.heap.size (w.alloc (.stringIter s 0)):=fun _=>rfl;simp[Instr.range,run_underlying b,hn 0]
theorem Qiu{r:Ac}{s:ByteArray}{pos:Nat}{F:List HP}{ty:TypeId}{i:WP}{j:Int->Int->WP}[o:OwnI r As s pos F](h0:s.size<=pos->Ent B As i)
  (h1:pos<s.size->Ent B (QVM r s (pos+(Utf8.decode s pos).2)::F) (j (pos:Int) ((Utf8.decode s pos).1:Int))):Ent B As (Qb3 P (.pointer r) ty i j):=by
 intro w d;have h:=d.perm o.perm;obtain⟨g,⟨b,m,hb⟩,n⟩:=h.head;subst m;have hb:w.heap[b]? = some (.stringIter s pos):=n _ _ hb
 have a:(getObj b).run P w=.ok (.stringIter s pos) w:=by simp[getObj,Sem.run,hb]
 have v:∀o,(setObj b o).run P w=.ok () { w with heap:=w.heap.setIfInBounds b o }:=fun o=>by simp[setObj,Sem.run,hb]
 by_cases c:pos<s.size
 ·obtain⟨p,q⟩:=MapKept.heap_set (o':=Obj.stringIter s (pos+(Utf8.decode s pos).2)) hb;refine⟨_,_,?_,.inr ⟨(pos:Int),((Utf8.decode s pos).1:Int),rfl,h1 c { w with heap:=w.heap.setIfInBounds b (.stringIter s (pos+(Utf8.decode s pos).2)) } ?_⟩⟩
  ·simp[Instr.next,a,c,v,goInt]
  ·exact h.writeO (b:=b) (fun g a=>by obtain⟨x,u,h1⟩:=a;cases u;exact⟨_,h1⟩) ⟨b,rfl,by simp⟩ (fun k l=>q k l) p rfl rfl rfl ⟨by simp,Wt _⟩
 ·refine⟨_,w,?_,.inl ⟨rfl,h0 Om w d⟩⟩;simp[Instr.next,a,c]
theorem decode_ascii{s:ByteArray}{pos:Nat}{b:UInt8}(hb:s.data.toList[pos]? = some b)(h:b.toNat<128):Utf8.decode s pos=(b.toNat,1):=by
 have e:s.get! (pos+0)=b:=by
  rw[Kq];obtain⟨h1,a⟩:=Wc.1 hb
  have c:pos<s.data.size:=Si h1
  show s.data[pos]! = b;rw[getElem!_pos s.data pos c];simpa using a
 unfold Utf8.decode;simp only[e];rw[We h]
theorem decode_other{s:ByteArray}{pos:Nat}{b:UInt8}(hb:s.data.toList[pos]? = some b)(h:¬b.toNat<128):128<=(Utf8.decode s pos).1:=by
 have e:s.get! (pos+0)=b:=by
  rw[Kq];obtain⟨h1,a⟩:=Wc.1 hb
  have c:pos<s.data.size:=Si h1
  show s.data[pos]! = b;rw[getElem!_pos s.data pos c];simpa using a
 unfold Utf8.decode;simp only[e];rw[Wb h]
 have r:128<=Utf8.runeError:=Dc
 split
 ·skip
  split
  ·rename_i a;exact a
  ·exact r
 split
 ·skip
  split
  ·rename_i a;simp at a;omega
  ·exact r
 split
 ·skip
  split
  ·rename_i a;simp at a;omega
  ·exact r
 ·exact r
end Go.Cf
namespace Go.Cf
open Go
set_option linter.unusedVariables false
def QNQ:Code->List Code
 | .seq a b=>QNQ a++QNQ b
 | c=>[c]
def QRb(P:Program)(N:Nat)(dp:Af)(a:List Oper->Env->(Env->WP)->WP):List Code->Env->(Env->WP)->List (Nat×(Env->WP))->(Env->WP)->WP
 | [],ρ,KN,_,_=>KN ρ
 | c::cs,ρ,KN,KX,KR=>wpC P N dp a c ρ (fun b=>QRb P N dp a cs b KN KX KR) KX KR
theorem QRV(P:Program)(N:Nat)(dp:Af)(g:List Oper->Env->(Env->WP)->WP):∀(xs ys:List Code) (ρ:Env) (h:Env->WP) (a:List (Nat×(Env->WP))) (b:Env->WP),
  QRb P N dp g (xs++ys) ρ h a b=QRb P N dp g xs ρ (fun d=>QRb P N dp g ys d h a b) a b
 | [],_,_,_,_,_=>rfl
 | c::cs,ys,ρ,h,a,b=>by
  show wpC P N dp g c ρ (fun d=>QRb P N dp g (cs++ys) d h a b) a b=wpC P N dp g c ρ (fun d=>QRb P N dp g cs d (fun d=>QRb P N dp g ys d h a b) a b) a b;congr 1;funext d;exact QRV P N dp g cs ys d h a b
theorem QdP(P:Program)(N:Nat)(dp:Af)(i:List Oper->Env->(Env->WP)->WP)(c:Code):∀(ρ:Env) (h:Env->WP) (d:List (Nat×(Env->WP))) (g:Env->WP),
  wpC P N dp i c ρ h d g=QRb P N dp i (QNQ c) ρ h d g:=by
 induction c with
 | seq a b iha k=>
  intro ρ h d g;show wpC P N dp i a ρ (fun j=>wpC P N dp i b j h d g) d g=QRb P N dp i (QNQ a++QNQ b) ρ h d g;rw[QRV,iha];congr 1;funext j;exact k j h d g
 | _=>intro ρ h d g;rfl
def QKy(P:Program)(fn:Func)(ss:List Sh)(R:Cur ss):Env->WP:=fun ρ=>QIq P (fn.results.toList.zip fn.resultTypes.toList) ρ [] fun vs=>Cur.appV ss R vs
def QYp(fn:Func)(k n:Nat):List Code:=match fn.body with
 | some c=>((QNQ c).drop k).take n
 | none=>[]
def QXf(fn:Func)(k:Nat):List Code:=match fn.body with
 | some c=>(QNQ c).drop k
 | none=>[]
def QHI(P:Program)(fn:Func)(dp:Af)(ss:List Sh)(R:Cur ss)(k:Nat)(ρ:Env):WP:=
 QRb P fn.ntmps dp (QLm P fn fn.ntmps) (QXf fn k) ρ (QKy P fn ss R) [] (QKy P fn ss R)
theorem QNH{P:Program}{fn:Func}{dp:Af}{ss:List Sh}{R:Cur ss}{k n:Nat}{ρ:Env} :
  QHI P fn dp ss R k ρ=QRb P fn.ntmps dp (QLm P fn fn.ntmps) (QYp fn k n) ρ (QHI P fn dp ss R (k+n)) [] (QKy P fn ss R):=by
 have e:QXf fn k=QYp fn k n++QXf fn (k+n):=by
  unfold QXf QYp
  cases fn.body with
  | none=>rfl
  | some c=>
   show (QNQ c).drop k=((QNQ c).drop k).take n++(QNQ c).drop (k+n);rw[<-Lh,Wu]
 unfold QHI;rw[e,QRV]
theorem Qbp{P:Program}(b:QHG P)(d:P.follows .mixedOrders=true){f:FuncId}{fn:Func}(g:P.funcs[f]? = some fn){dp:Af}{args:Ad}{rs:Rs}{ss:List Sh}
  (i:QAW P fn.resultTypes.toList=(rs,ss)) (a:(fn.body.isSome&&(Nat.beq fn.results.toList.length fn.resultTypes.toList.length&&Nat.ble args.length fn.ntmps))=true) {K:Cur ss}{w:World}(h:QHI P fn dp ss K 0 (QKd args 0) w):QAX P f args rs ss K w:=by
 refine QLv (dp:=dp) b d g i ?_;unfold wpF
 cases hb:fn.body with
 | none=>rw[hb]at a;simp at a
 | some c=>
  rw[hb]at a;simp only[Option.isSome_some,Bool.true_and]at a;simp only[a,cond_true];rw[QdP];unfold QHI QXf at h;rw[hb]at h;exact h
variable {B:QBJ}{As:List HP}
theorem xeq{φ a:WP}(e:φ=a)(h:Ent B As a):Ent B As φ:=by rw[e];exact h
end Go.Cf
namespace Go.Cf
open Go
set_option linter.unusedVariables false
def Qf2(P:Program)(v:Value)(args:Ad)(K:WP):WP:=
 match callee [] (.value (.const v)) with
 | some (g,first,cap)=>bif QBN P g then QAX P g (first++args++cap) (.tup []) [] K else bad
 | none=>match QHj [] (.value (.const v)) with
  | some (l,first)=>bad
  | none=>bad
def Qe7(P:Program)(v:Value)(args:Ad)(s:Sh)(K:s.ty->WP):WP:=
 match callee [] (.value (.const v)) with
 | some (g,first,cap)=>bif QBN P g then QAX P g (first++args++cap) .one [s] K else QiG P g (first++args++cap) s K
 | none=>match QHj [] (.value (.const v)) with
  | some (l,first)=>(match s,K with
   | .bool,K=>QWj P l (first++args) K
   | _,_=>bad)
  | none=>bad
def QjG(P:Program)(v:Value)(args:Ad)(l:List (Option Nat))(ss:List Sh)(K:Cur ss):WP:=
 match callee [] (.value (.const v)) with
 | some (g,first,cap)=>bif QBN P g then QAX P g (first++args++cap) (.tup l) ss K else bad
 | none=>match QHj [] (.value (.const v)) with
  | some (_,_)=>bad
  | none=>bad
variable {B:QBJ}{As F:List HP}
theorem QgW{P:Program}{g:FuncId}{first a:Array Value}{args:Ad}{l:List (Option Nat)}{ss:List Sh}{K:Cur ss}(hb:QBN P g=true)
  (h:Ent B As (QAX P g (first.toList++args++a.toList) (.tup l) ss K)):Ent B As (QjG P (.func (.func g) first a) args l ss K):=by
 intro w b;show (bif QBN P g then QAX P g (first.toList++args++a.toList) (.tup l) ss K else bad) w;rw[hb];exact h w b
theorem QjZ{P:Program}{g:FuncId}{first a:Array Value}{args:Ad}{K:WP}(hb:QBN P g=true)
  (h:Ent B As (QAX P g (first.toList++args++a.toList) (.tup []) [] K)):Ent B As (Qf2 P (.func (.func g) first a) args K):=by
 intro w b;show (bif QBN P g then QAX P g (first.toList++args++a.toList) (.tup []) [] K else bad) w;rw[hb];exact h w b
theorem QYT{P:Program}{g:FuncId}{first a:Array Value}{args:Ad}{s:Sh}{K:s.ty->WP}(hb:QBN P g=true)
  (h:Ent B As (QAX P g (first.toList++args++a.toList) .one [s] K)):Ent B As (Qe7 P (.func (.func g) first a) args s K):=by
 intro w b;show (bif QBN P g then QAX P g (first.toList++args++a.toList) .one [s] K else QiG P g (first.toList++args++a.toList) s K) w;rw[hb];exact h w b
end Go.Cf
namespace Go.Cf
open Go
set_option linter.unusedVariables false
variable {B:QBJ}{As:List HP}
theorem Qhy{body:WP->WP}(b:Nat->List HP->Prop)(n0:Nat)(h0:b n0 As)
  (round:∀n As' (K:WP),b n As'->(∀m a,m<n->b m a->Ent B a K)->Ent B As' (body K)):Ent B As (QFl [] body):=by
 intro w g;refine⟨n0+1,?_⟩
 have key:∀n As',b n As'->∀k,n<k->Ent B As' (Cur.app [] (QEs [] body k) ()):=by
  intro n
  induction n using Nat.strongRecOn with
  | _ n ih=>
   intro As' hI k h
   cases k with
   | zero=>omega
   | succ k=>exact round n As' (QEs [] body k) hI fun m a c d=>ih m c a d k Om
 exact key n0 As h0 (n0+1) Om w g
theorem Qip{s:ByteArray}{i:Int}{k:Nat}{b:UInt8}{K:Int->WP}(hi:i=(k:Int))(hb:s.data.toList[k]? = some b)(h:Ent B As (K b.toNat)):Ent B As (QOU s i K):=fun w a=>by
 subst hi;refine⟨b,Om,?_,h w a⟩;rw[Wh];obtain⟨h1,c⟩:=Wc.1 hb
 have d:k<s.data.size:=Si h1
 show s.data[k]? = some b;rw[O9 d];simpa using c
theorem Qj2{P:Program}{t d e:TypeId}{s:Sl}{xs:Ab}{K:ByteArray->WP}[r:RdA B As s U8 xs](h0:0<xs.length)(m:P.underlying t=some (.slice e))(he:P.underlying e=some (.int .u8))(q:P.underlying d=some .string)(h:Ent B As (K ⟨xs.toArray⟩)) :
  Ent B As (QLu P (convert t d s.v) .str K):=by
 intro w a;obtain⟨hn,_,hc⟩:=r.rd w a;obtain⟨b,o,pre,post,i,fr,g,hb,k⟩:=hc Om;obtain⟨p,n,c⟩:=s;simp only at g hn;subst g hn;refine⟨⟨xs.toArray⟩,w,?_,h w a⟩;have l:w.heap[b]? = some (.cells (pre++QAi U8 xs++post).toArray i fr):=hb;refine run_convert_bytes_back w t d e ⟨b,o,none⟩ c xs m he q fun j hj=>?_;rw[QCV];simp only[World.cell?,l];simp only[Z5,Wi,Oa,Zj];have hl:=QAI U8 xs;have hsz:U8.sz=1:=rfl;rw[Wk,Wr Om,k,Ku,Wj (by rw[hl,hsz];omega),QfO,Wa hj];rfl
end Go.Cf
namespace Go.Cf
open Go
set_option linter.unusedVariables false
def QYj(l:Nat)(K:WP):WP:=fun w=>∃r,w.heap[l]? = some (.loop r)/\r.state=.ready/\K (w.putObj l (.loop { r with state:=.busy }))
def QPF(l:Nat)(K:WP):WP:=fun w=>∃r,w.heap[l]? = some (.loop r)/\K (w.putObj l (.loop { r with state:=.ready,pending:=none }))
def QQx(l:Nat)(K:WP):WP:=fun w=>∃r,w.heap[l]? = some (.loop r)/\r.state≠.busy/\r.pending=none/\K (w.putObj l (.loop { r with state:=.exhausted }))
def QXV(D:Nat)(K:WP):WP:=fun w=>w.heap[D]? = some (.deferred (some []))/\K (w.putObj D (.deferred none))
def Qaq(P:Program)(l:Nat)(b:Loop)(c:Nat)(d:Nat->Ad->WP->WP):Prop:=
 ∀(args:Ad) (R:WP) (W:World),args.length=c->W.heap[l]? = some (.loop b)->d l args R W->YieldAt (FF none) 0 P l args.toArray W fun e a=>e=.returned (.bool true)/\R a
def XRF(P:Program)(g:FuncId)(b:Ad)(c:Nat)(d:Nat->Ad->WP->WP)(K:Nat->WP):WP:=fun w=>
 ∀a:Loop,a.state=.ready->a.pending=none->Qaq P (w.heap.size+1) a c d ->
  QAX P g ([.func (.yield (w.heap.size+1)) #[] #[]]++b) (.tup []) [] (QQx (w.heap.size+1) (K w.heap.size)) ((w.alloc (.deferred (some []))).alloc (.loop a))
def Qgs(P:Program)(v:Value)(a:Nat)(b:Nat->Ad->WP->WP)(K:Nat->WP):WP:=
 match v with
 | .func (.func gf) first cap=>bif QeH (first.toList.map fun _=>0)&&QBN P gf then XRF P gf cap.toList a b K else bad
 | _=>bad
def Qig(P:Program)(N:Nat)(dp:Af)(a:List Oper->Env->(Env->WP)->WP)(g:Operand)(ps:Af)(assign body:Code)(ρ:Env)(K:Nat->WP):WP:=
 bif QCo ps&&(ps.all fun t=>Nat.blt t N)&&QNX ρ g then
  Qgs P (ev ρ g) ps.length (fun l args R=>wpC P N dp a assign (QOB ps args ρ) (fun b=>QYj l (wpC P N dp a body b (fun _=>QPF l R) [] (fun _=>bad))) [] (fun _=>bad)) K
 else bad
section
variable {P:Program}{N:Nat}{dp:Af}{dr:List Oper->Env->(Env->WP)->WP}
theorem QHc:∀c:Code,LeavesC c fun _=>True:=by
 intro c
 induction c with
 | region _ ops _=>exact fun _ _ _ _ _=>trivial
 | seq a b iha ihb=>exact⟨iha,ihb⟩
 | cond _ a b iha ihb=>exact⟨iha,ihb⟩
 | block _ b ih=>exact ih
 | loop b ih=>exact ih
 | scope b ih=>exact ih
 | _=>trivial
theorem QOF(tmps:Array Value)(l:List (Nat×Value)):(l.foldl (fun t (p:Nat×Value)=>t.setIfInBounds p.1 p.2) tmps).size=tmps.size:=by
 induction l generalizing tmps with
 | nil=>rfl
 | cons p l ih=>rw[Zr,ih,Array.size_setIfInBounds]
theorem QKI(l:List (Nat×Value))(t:Nat)(h:∀p∈l,p.1≠t)(tmps:Array Value):(l.foldl (fun t (p:Nat×Value)=>t.setIfInBounds p.1 p.2) tmps)[t]? = tmps[t]?:=by
 induction l generalizing tmps with
 | nil=>rfl
 | cons p l ih=>
  rw[Zr,ih (fun q a=>h q (Wz _ a)),Oj (h p (W5 ..))]
theorem QUR{t:Nat}{l:Af}(h:QCo (t::l)=true):t∉l/\QCo l=true:=by
 simp only[QCo,Wf,W2]at h;exact⟨fun a=>(by rw[QBg.2 a]at h;exact absurd h.1 Dc),h.2⟩
theorem QVc{dl:List Deferred}{ρ:Env}{a:Act}(h:Fits N dl ρ a):∀(ps:Af) (args:Ad),QCo ps=true->(∀t∈ps,t<N)->args.length=ps.length ->
  Fits N [] (QOB ps args ρ) { tmps:=(ps.zip args).foldl (fun t (p:Nat×Value)=>t.setIfInBounds p.1 p.2) a.tmps,defers:=[] }:=by
 intro ps args hn c hl;refine⟨by rw[QOF];exact h.size,rfl,?_⟩
 have n:∀(ps:Af) (args:Ad) (tmps:Array Value),QCo ps=true->(∀t∈ps,t<N)->args.length=ps.length->N<=tmps.size ->
   ∀t,t∈ps->((ps.zip args).foldl (fun t (p:Nat×Value)=>t.setIfInBounds p.1 p.2) tmps)[t]? = some (gv (QOB ps args ρ) t):=by
  intro ps
  induction ps with
  | nil=>intro args tmps _ _ _ _ t b;cases b
  | cons p ps ih=>
   intro args tmps hn c hl k t b
   cases args with
   | nil=>simp at hl
   | cons v vs=>
    obtain⟨l,hn⟩:=QUR hn;simp only[List.zip_cons_cons,Zr,QOB,QCv]
    cases i:Nat.beq p t with
    | true=>
     obtain rfl:=Wo i;simp only[cond_true];rw[QKI _ _ (fun q d e=>l (by rw[<-e];exact (List.of_mem_zip d).1)),Uj (by have:=c p (W5 ..);omega)]
    | false=>
     have o:p≠t:=fun e=>by subst e;simp at i
     simp only[cond_false];exact ih vs _ hn (fun u j=>c u (Wz _ j)) (Si hl) (Si k) t ((W7.1 b).resolve_left (Ne.symm o))
 intro t b;by_cases g:t∈ps
 ·exact n ps args a.tmps hn c hl h.size t g
 ·obtain⟨h1,m⟩:=QRX (ρ:=ρ) ps args (t:=t) (by rw[Zd];exact fun e=>g (QBg.1 e));rw[h1]at b;rw[m,QKI _ _ (fun q d e=>g (by rw[<-e];exact (List.of_mem_zip d).1))];exact h.get t b
theorem QeR(v:QHG P)(J:QN3 P N dr){g:Operand}{ps:Array Tmp}{assign body:Code}{dl:List Deferred}{ρ:Env}{a:Act}{w:World}{K:Nat->WP}{Q:Exit->Act->World->Prop}
  (h:Qig P N dp dr g ps.toList assign body ρ K w) (i:Fits N dl ρ a) (a4:∀(D:Nat) o w',Fits N ({ target:=.collected D,args:=#[] } :: dl) ρ o->K D w'->Q .normal o w') :
  (Code.rangeFunc g ps assign body).wpIn (FF none) 0 P Q a w:=by
 unfold Qig at h;obtain⟨hc,h⟩:=QAG h;simp only[Wf,Ot]at hc;obtain⟨⟨O,n⟩,S⟩:=hc
 have n:∀t∈ps.toList,t<N:=fun t L=>by simpa [K6]using n t L
 have C:=i.eval S;unfold Qgs at h;cases hv:ev ρ g<;>rw[hv]at h<;>try exact h.elim
 rename_i M first j
 cases M<;>try exact h.elim
 rename_i b
 simp only at h;obtain⟨hc,T⟩:=QAG h;clear h;simp only[Wf]at hc;obtain⟨z,k⟩:=hc
 have a0:first = #[]:=by
  cases I:first.toList with
  | nil=>exact Array.toList_inj.1 (by rw[I])
  | cons x xs=>rw[I]at z;exact absurd z (by simp[QeH])
 subst a0;rw[hv]at C
 have a1:∀args w,(callFunc b args).run P w=.ok (.enter b args) w:=by
  intro args w;unfold QBN at k
  cases l:P.funcs[b]? with
  | none=>rw[l]at k;cases k
  | some fd=>
   rw[l]at k;have a2:=v b fd l
   have a3:fd.body.isNone=false:=by cases b0:fd.body<;>simp_all
   simp only[callFunc,Sem.run_bind,Sem.run_pure,Result.andThen_ok,run_program,l,a2,a3,Wi,Oa]
 refine wpIn_rangeFunc (fun fn _=>?_);obtain⟨c,d⟩:∃c:Loop,c={ state:=.ready,pending:=none,fn,tmps:=a.tmps,params:=ps,assign,body,defers:=w.heap.size }:=⟨_,rfl⟩
 refine⟨w.heap.size+1,[{ target:=.collected w.heap.size,args:=#[] }],(w.alloc (.deferred (some []))).alloc (.loop c),{ target:=.fn (.func b) j,args:=#[.func (.yield (w.heap.size+1)) #[] #[]] },
  (w.alloc (.deferred (some []))).alloc (.loop c),b,#[.func (.yield (w.heap.size+1)) #[] #[]]++j,(w.alloc (.deferred (some []))).alloc (.loop c),?_,?_,fun _ _=>trivial,?_,fun h=>(by cases h),?_⟩
 ·rw[d];exact run_enterLoop_outer _ _ _ _ _
 ·simp only[resolve,C];simp[go_sem]
 ·simp[invoke,go_sem,a1]
 refine QGF.2 ?_
 have hx:=T c (by rw[d]) (by rw[d]) (by
  intro args R W y hl hb;have E:=run_yield (P:=P) (args:=args.toArray) hl (by rw[d];simpa using y);rw[d]at E;refine⟨_,_,_,_,E,roundIn_of_wpIn trivial ?_⟩;have G:=QVc i ps.toList args O n y
  have he:(ps.zip args.toArray).foldl (fun tmps (t,a)=>tmps.setIfInBounds t a) a.tmps=(ps.toList.zip args).foldl (fun t (p:Nat×Value)=>t.setIfInBounds p.1 p.2) a.tmps:=by
   rw[<-Array.foldl_toList];simp
  show assign.wpIn (FF (some (w.heap.size+1))) 0 P _ _ W;refine QF3 (dl:=[]) v J assign (Fr:=fun _=>True) (fun _ _ _ _ m=>m.elim) hb (by rw[<-he]at G;exact G) (QHc _) trivial ?_ (fun _ _ _ _ _ _ h=>h.elim) (fun _ _ _ _ _ h=>h.elim);rintro a5 o w' U _ ⟨r,s,u,V⟩;refine⟨_,run_beginRound s u,?_⟩;show body.wpIn (FF (some (w.heap.size+1))) 0 P _ _ _;refine QF3 (dl:=[]) v J body (Fr:=fun _=>True) (fun _ _ _ _ m=>m.elim) V U (QHc _) trivial ?_ (fun _ _ _ _ _ _ h=>h.elim) (fun _ _ _ _ _ h=>h.elim);rintro a6 a7 a8 _ _ ⟨a9,X,Y⟩
  exact⟨_,_,run_endRound none X,rfl,Y⟩)
 unfold QAX QG1 at hx
 have e:([.func (.yield (w.heap.size+1)) #[] #[]]++j.toList:Ad).toArray = #[.func (.yield (w.heap.size+1)) #[] #[]]++j:=by apply Zt;simp
 rw[e]at hx;refine Calls.mono hx ?_;rintro _ a' ⟨t,rfl,r,s,u,A,Z⟩;refine⟨r.pending,_,run_endLoop (P:=P) s u,?_⟩;have key:=a4 _ { tmps:=a.tmps,defers:=[{ target:=.collected w.heap.size,args:=#[] }]++a.defers } _ ⟨i.size,by show _::a.defers=_;rw[i.defs],i.get⟩ Z;generalize r.pending=q at A key|-;subst A;exact key
def QSv(P:Program):List Code->(Act->World->Prop)->(Exit->Act->World->Prop)->Act->World->Prop
 | [],M,_,a,w=>M a w
 | c::cs,M,Q,a,w=>c.wpIn (FF none) 0 P (Exit.then (QSv P cs M Q) Q) a w
theorem QTN(xs ys:List Code)(M:Act->World->Prop)(Q:Exit->Act->World->Prop):QSv P (xs++ys) M Q=QSv P xs (QSv P ys M Q) Q:=by
 induction xs with
 | nil=>rfl
 | cons c cs ih=>funext a w;simp only[Ul,QSv,ih]
theorem Qa3:∀(c:Code) (M:Act->World->Prop) (Q:Exit->Act->World->Prop) (a:Act) (w:World),QSv P (QNQ c) M Q a w->c.wpIn (FF none) 0 P (Exit.then M Q) a w:=by
 intro c
 induction c with
 | seq x y ihx ihy=>
  intro M Q a w h;simp only[QNQ]at h;rw[QTN]at h;refine wpIn_seq (wpIn_mono (ihx _ Q a w h) ?_);rintro e d w' b
  cases e with
  | normal=>exact ihy M Q d w' b
  | _=>exact b
 | _=>intro M Q a w h;exact h
theorem QPl(r:QHG P)(s:QN3 P N dr){dl:List Deferred}:∀(cs:List Code) {ρ:Env}{j k:Env->WP}{l:List (Nat×(Env->WP))}{a:Act}{w:World}{M:Act->World->Prop}{Q:Exit->Act->World->Prop},
  QRb P N dp dr cs ρ j l k w->Fits N dl ρ a->(∀b d w',Fits N dl b d->j b w'->M d w')->(∀id b d w',Fits N dl b d->QgU id l b w'->Q (.exit id) d w') ->
  (∀b d w',Fits N dl b d->k b w'->Q .ret d w')->QSv P cs M Q a w:=by
 intro cs
 induction cs with
 | nil=>intro ρ j k l a w M Q h m n _ _;exact n _ _ _ m h
 | cons c cs ih=>
  intro ρ j k l a w M Q h m n o p;refine QF3 (rn:=none) r s c (Fr:=fun _=>True) (fun _ _ _ _ q=>q.elim) h m (QHc _) trivial ?_ ?_ ?_
  ·intro b d w' g _ i;exact ih i g n o p
  ·intro id b d w' g _ i;exact o id b d w' g i
  ·intro b d w' g _ i;exact p b d w' g i
theorem QPi{fn:Func}{ρ:Env}{a:Act}{dl:List Deferred}{R:Cur (QAW P fn.resultTypes.toList).2}{w':World}(hl:fn.results.toList.length=fn.resultTypes.toList.length)(l:Fits fn.ntmps dl ρ a)
  (m:QKy P fn _ R ρ w'):∃v t,(results fn a.tmps).run P w'=.ok v w'/\v=(QAW P fn.resultTypes.toList).1.mk (Tup.vals _ t)/\Cur.app _ R t w':=by
 obtain⟨vs,cs,i,k,b⟩:=QM4 l _ _ _ _ _ hl m;obtain⟨t,c,b⟩:=Cur.appV_app _ _ _ _ b;refine⟨_,t,?_,rfl,b⟩;simp only[W6]at c;rw[c,QgD k]
 have j:∀g:ResultVar->Sem Value,(∀r,g r=QLl a.tmps r) ->
   (do let vs <- fn.results.mapM g;pure (if h:vs.size=1 then vs[0] else .tuple vs):Sem Value).run P w'=.ok (if h:vs.toArray.size=1 then vs.toArray[0] else .tuple vs.toArray) w':=by
  intro g d;obtain rfl:g=QLl a.tmps:=funext d;rw[Lj];simp only[Sem.run_bind,Sem.run_map,i,Result.andThen_ok,Sem.run_pure]
 exact j _ fun r=>by cases r<;>rfl
def QWu(fn:Func)(k:Nat):Code:=match fn.body with
 | some c=>(match (QNQ c)[k]? with
  | some (.block _ (.rangeFunc _ _ a _))=>a
  | _=>.skip)
 | none=>.skip
def Qeb(fn:Func)(k:Nat):Code:=match fn.body with
 | some c=>(match (QNQ c)[k]? with
  | some (.block _ (.rangeFunc _ _ _ b))=>b
  | _=>.skip)
 | none=>.skip
def Qjf(fn:Func)(k:Nat):Af:=match fn.body with
 | some c=>(match (QNQ c)[k]? with
  | some (.block _ (.rangeFunc _ ps _ _))=>ps.toList
  | _=>[])
 | none=>[]
def QiT(P:Program)(dp:Af)(b:Nat->List Oper->Env->(Env->WP)->WP)(fn:Func)(k:Nat)(args:Ad)(ss:List Sh)(R:Cur ss):WP:=
 match fn.body with
 | none=>bad
 | some c=>bif Nat.beq fn.results.toList.length fn.resultTypes.toList.length&&Nat.ble args.length fn.ntmps then
   (match (QNQ c)[k]? with
   | some (.block id (.rangeFunc g ps assign body))=>
    QRb P fn.ntmps dp (b fn.ntmps) ((QNQ c).take k) (QKd args 0) (fun ρ=>Qig P fn.ntmps dp (b fn.ntmps) g ps.toList assign body ρ fun D=>
     QRb P fn.ntmps dp (b fn.ntmps) ((QNQ c).drop (k+1)) ρ (fun a=>QXV D (QKy P fn ss R a)) [] (fun a=>QXV D (QKy P fn ss R a))) [] (fun a=>QKy P fn ss R a)
   | _=>bad)
  else bad
theorem QVs(m:QHG P)(R:P.follows .mixedOrders=true){f:FuncId}{fn:Func}(S:P.funcs[f]? = some fn){dp:Af}{k:Nat}{args:Ad}{rs:Rs}{ss:List Sh}
  (T:QAW P fn.resultTypes.toList=(rs,ss)) {K:Cur ss}{w:World}(h:QiT P dp (QLm P fn) fn k args ss K w):QAX P f args rs ss K w:=by
 obtain⟨rfl,rfl⟩:(QAW P fn.resultTypes.toList).1=rs/\(QAW P fn.resultTypes.toList).2=ss:=by rw[T];exact⟨rfl,rfl⟩
 unfold QiT at h
 cases hb:fn.body with
 | none=>rw[hb]at h;exact h.elim
 | some c=>
 rw[hb]at h;simp only at h;obtain⟨hc,h⟩:=QAG h;simp only[Wf]at hc;have hl:=Wo hc.1;have V:=Kb hc.2
 cases i:(QNQ c)[k]? with
 | none=>rw[i]at h;exact h.elim
 | some x=>
  rw[i]at h;cases x<;>try exact h.elim
  rename_i id y
  cases y<;>try exact h.elim
  rename_i g ps assign body
  simp only at h
  have M:QNQ c=(QNQ c).take k++(.block id (.rangeFunc g ps assign body))::(QNQ c).drop (k+1):=by
   obtain⟨o,e⟩:=Wc.1 i
   conv=>lhs;rw[<-Wu k (QNQ c),Ws o,e]
  unfold QAX QG1;refine (QGF (rn:=none) (n:=0)).1 (callsIn_of_wp_marks S hb trivial ?_)
  have O:Fits fn.ntmps [] (QKd args 0) { tmps:=args.toArray++Array.replicate (fn.ntmps - args.toArray.size) undef,defers:=[] }:=by
   refine⟨by simp;omega,rfl,fun t r=>?_⟩;obtain⟨j,hj,hv⟩:=QNP args 0 t r
   have Q:t=j:=Om
   subst Q;have o:t<args.length:=(Wc.1 hv).1;rw[Ud (Si o)];simpa using hv
  have p:=QMH m R fn fn.ntmps;refine wpIn_mono (Qa3 c (bodyPostM (FF none) 0 P fn _ .normal) (bodyPostM (FF none) 0 P fn _) _ _ ?_) (fun e s w' u=>by cases e<;>exact u);rw[M,QTN]
  refine QPl m p _ h O ?_ (fun _ _ _ _ _ h=>h.elim) (fun d a3 a b l=>by
   show LeavesInM (FF none) 0 P fn a3.tmps _ a3.defers .returning a;rw[b.defs];obtain⟨v,t,hv,rfl,i⟩:=QPi hl b l
   exact⟨_,hv,t,rfl,i⟩)
  intro U s w' z A;show Code.wpIn _ _ _ _ _ _ _;refine wpIn_block ?_;refine QeR m p A z ?_;intro D C E G I
  have q:∀d a3 a,Fits fn.ntmps ({ target:=.collected D,args:=#[] } :: []) d a3->QXV D (QKy P fn _ K d) a ->
    LeavesInM (FF none) 0 P fn a3.tmps (fun e w'=>∃t,e=.returned ((QAW P fn.resultTypes.toList).1.mk (Tup.vals _ t))/\Cur.app _ K t w') a3.defers .returning a:=by
   rintro d a3 a b ⟨J,L⟩;rw[b.defs];obtain⟨v,t,hv,rfl,i⟩:=QPi hl b L;exact⟨by simp,.inl ⟨D,_,rfl,run_takeDeferred J,_,hv,t,rfl,i⟩⟩
  show QSv P _ _ _ C E;exact QPl m p _ I G (fun d a3 a b l=>q d a3 a b l) (fun _ _ _ _ _ h=>h.elim) (fun d a3 a b l=>q d a3 a b l)
end
section
variable {B:QBJ}{As F:List HP}
def QDL(l:Nat)(r:Loop):HP:=fun h=>h l=some (.loop r)
def Qce(D:Nat):HP:=fun h=>h D=some (.deferred (some []))
def QkW(D:Nat):HP:=fun h=>h D=some (.deferred none)
theorem QKS{l:Nat}{r:Loop}{w:World}(h:Sx B (QDL l r::As) w):w.heap[l]? = some (.loop r):=by
 obtain⟨g,a,b⟩:=h.head;exact b l _ a
theorem QJm{P Q:HP}{w:World}{b:Nat}{o o':Obj}(h:Sx B (P::As) w)(c:w.heap[b]? = some o)(d:∀g,P g->∃o,g b=some o)(i:∀g:QBs,g b=some o'->(∀k,k≠b->g k=none)->Q g):Sx B (Q::As) (w.putObj b o'):=
 h.writeO (b:=b) (o':=o') d (i _ (by simp) (fun k a=>by simp[a])) (fun k a=>World.putObj_heap_other a) (World.putObj_heap_same (W9.1 c).1) rfl rfl rfl ⟨by simp,Wt _⟩
theorem Qh3(i:Nat){l:Nat}{r:Loop}[p:Pick i As (QDL l r) F]{K:WP}(c:r.state=.ready)(h:Ent B (QDL l { r with state:=.busy } :: F) K):Ent B As (QYj l K):=fun w a=>by
 have a:=a.perm p.perm;have hl:=QKS a;exact⟨r,hl,c,h _ (QJm a hl (fun g b=>⟨_,b⟩) fun g b _=>b)⟩
theorem Qee(i:Nat){l:Nat}{r:Loop}[p:Pick i As (QDL l { r with state:=.busy }) F]{K:WP}(j:r.state=.ready)(hn:r.pending=none)(h:Ent B (QDL l r::F) K):Ent B As (QPF l K):=fun w c=>by
 have c:=c.perm p.perm;have hl:=QKS c;refine⟨_,hl,h _ ?_⟩
 have e:({ ({ r with state:=.busy }:Loop) with state:=.ready,pending:=none }:Loop)=r:=by
  obtain⟨a,b,_,_,_,_,_,_⟩:=r;simp only at j hn;subst j hn;rfl
 rw[e];exact QJm c hl (fun g d=>⟨_,d⟩) fun g d _=>d
theorem QVr(i:Nat){l:Nat}{r:Loop}[p:Pick i As (QDL l r) F]{K:WP}(c:r.state=.ready)(hn:r.pending=none)(h:Ent B F K):Ent B As (QQx l K):=fun w a=>by
 have a:=a.perm p.perm;have hl:=QKS a;refine⟨r,hl,by rw[c];decide,hn,?_⟩;have:Sx B (QDL l { r with state:=.exhausted } :: F) _:=QJm a hl (fun g b=>⟨_,b⟩) fun g b _=>b;exact h _ this.tail
theorem Qgh(i:Nat){D:Nat}[p:Pick i As (Qce D) F]{K:WP}(h:Ent B F K):Ent B As (QXV D K):=fun w b=>by
 have b:=b.perm p.perm;obtain⟨g,a,d⟩:=b.head;have c:w.heap[D]? = some (.deferred (some [])):=d D _ a;refine⟨c,?_⟩;have:Sx B (QkW D::F) (w.putObj D (.deferred none)):=QJm b c (fun g a=>⟨_,a⟩) fun g a _=>a;exact h _ this.tail
def CtY(P:Program)(l:Nat)(args:Ad)(pre:List HP)(rd:HP)(post:List HP->Prop):Prop:=
 ∀(w:World) (h:QBs),QBr pre h->Sub h (mem w)->rd (frz w h)->YieldAt (FF none) 0 P l args.toArray w fun e w'=>∃Bs,e=.returned (.bool true)/\post Bs/\Sx ⟨w,h⟩ Bs w'
theorem Qg7{P:Program}{l:Nat}{args:Ad}{pre:List HP}{rd:HP}{post:List HP->Prop}{K:Bool->WP}(L:CtY P l args pre rd post)(p:As.Perm (pre++F))(M:Rds B F rd)
  (h:∀Bs,post Bs->Ent B (Bs++F) (K true)):Ent B As (QWj P l args K):=by
 intro w y;obtain⟨g,z,m,j⟩:=y.perm p;obtain⟨a,b,A,hb,r,n,q⟩:=(QAl pre F).1 z;have s:Upd B (uni a b) w:=j.sub (QDe n q);obtain⟨fn,tmps,assign,body,C,D⟩:=L w a A (n.trans m) (M w a b hb (q.trans m) r (n.trans m) s);refine⟨fn,tmps,assign,body,C,D.mono ?_⟩;rintro e w' ⟨Bs,rfl,E,c,hc,G,i⟩;refine⟨true,rfl,h Bs E w' ⟨uni c b,(QAl Bs F).2 ⟨c,b,hc,hb,?_,QBV _ _,?_⟩,?_,?_⟩⟩
 all_goals
  have key:∀k o,b k=some o->w'.heap[k]? = some o/\c k=none:=by
   intro k o d;have h1:w.heap[k]? = some o:=(q.trans m) k o d;have I:k<w.heap.size:=(W9.1 h1).1
   have J:a k=none:=by
    rcases r k with e|e
    ·exact e
    ·rw[d]at e;cases e
   have:=i.old k I J;exact⟨by rw[this.1];exact h1,this.2⟩
  have u:Dis c b:=fun k=>by
   cases d:b k with
   | none=>exact .inr rfl
   | some o=>exact .inl (key k o d).2
 ·exact u
 ·exact QBU u
 ·exact QDe G fun k o d=>(key k o d).1
 ·refine⟨by rw[i.os,j.os],by rw[i.tape,j.tape],by rw[i.output,j.output],by first|exact Oq j.drawn i.drawn|exact i.drawn,Oq j.size i.size,fun k d h0=>?_⟩;have h1:=s.old k d h0;have v:=QDH.1 h1.2;have x:=i.old k (Ug d j.size) v.1;exact⟨by rw[x.1];exact h1.1,QDH.2 ⟨x.2,v.2⟩⟩
theorem Qib{P:Program}{l:Nat}{args:Ad}{K:Bool->WP}(h:Ent B As (QWj P l args K)):Ent B As (Qe7 P (.func (.yield l) #[] #[]) args .bool K):=fun w a=>h w a
theorem Qjl{P:Program}{g:FuncId}{a:Array Value}{b:Nat}{c:Nat->Ad->WP->WP}{K:Nat->WP}(hb:QBN P g=true)(h:Ent B As (XRF P g a.toList b c K)):Ent B As (Qgs P (.func (.func g) #[] a) b c K):=fun w d=>by
 show (bif QeH ((#[]:Array Value).toList.map fun _=>0)&&QBN P g then XRF P g a.toList b c K else bad) w;rw[hb];exact h w d
theorem xrf{P:Program}{g:FuncId}{n:Ad}{p:Nat}{q:Nat->Ad->WP->WP}{K:Nat->WP}
  (h:∀(l D:Nat) (c:Loop),c.state=.ready->c.pending=none ->
   (∀(args:Ad) (pre:List HP) (rd:HP) (post:List HP->Prop),args.length=p ->
    (∀d:QBJ,rd (frz d.W d.h0)->Ent d (QDL l c::pre) (q l args (fun w=>∃Bs,post Bs/\Sx d (QDL l c::Bs) w))) ->
    CtY P l args (QDL l c::pre) rd (fun Bs=>∃m,Bs=QDL l c::m/\post m)) ->
   Ent B (QDL l c::Qce D::As) (QAX P g ([.func (.yield l) #[] #[]]++n) (.tup []) [] (QQx l (K D)))):Ent B As (XRF P g n p q K):=by
 intro w r c s hn u;refine h (w.heap.size+1) w.heap.size c s hn ?_ _ ?_
 ·intro args pre rd post hl hb W g v i x;obtain⟨a,b,j,y,z,k,A⟩:=v;have I:W.heap[w.heap.size+1]? = some (.loop c):=i _ _ (k _ _ j);obtain⟨fn,tmps,assign,body,C,E⟩:=u args (fun w'=>∃Bs,post Bs/\Sx ⟨W,g⟩ (QDL (w.heap.size+1) c::Bs) w') W hl I (hb ⟨W,g⟩ x W (Sx.start ⟨a,b,j,y,z,k,A⟩ i));refine⟨fn,tmps,assign,body,C,E.mono ?_⟩;rintro e w' ⟨rfl,Bs,G,hx⟩;exact⟨_,rfl,⟨Bs,rfl,G⟩,hx⟩
 ·have h1:Sx B (Qce w.heap.size::As) (w.alloc (.deferred (some []))):=r.allocO (Q:=Qce w.heap.size) (by simp[Qce]);have J:=h1.allocO (o:=.loop c) (Q:=QDL (w.heap.size+1) c) (by simp[QDL]);exact J
end
end Go.Cf
