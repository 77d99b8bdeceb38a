import Derived.Test.YthbhbkjkclhkgaaGreatDoorCfA
import Derived.Scope
set_option linter.unusedSectionVars false
namespace Go.Cf
open Go
def QFj(ops:List Oper)(j:Nat):Option Nat:=
 match ops[j]? with
 | some o=>o.dst
 | none=>none
def QBy(t:Nat):List Nat→Bool
 | []=>false
 | u::r=>bif Nat.beq u t then true else QBy t r
def QTQ(ops:List Oper)(dec:List Nat)(ρ:Env):Option (Nat×Bool)→Option Bool
 | none=>some true
 | some (j,b)=>bif QBy j dec then
   (match QFj ops j with
    | some d=>bif has ρ d then (match gv ρ d with|.bool x=>some (bif x then b else !b)|_=>none) else none
    | none=>none)
  else none
def QDd(d:Nat):List Oper→Option (List Oper×Oper×List Oper)
 | []=>none
 | o::r=>match o.op with
  | .pick (.tmp c) _ _=>bif Nat.beq c d then some ([],o,r) else (match QDd d r with|some (g,p,r')=>some (o::g,p,r')|none=>none)
  | _=>match QDd d r with|some (g,p,r')=>some (o::g,p,r')|none=>none
theorem QQQ{d:Nat}:∀{l g:List Oper}{p:Oper}{r:List Oper},QDd d l=some (g,p,r)→l=g++p::r∧∃x y,p.op=.pick (.tmp d) x y:=by
 intro l
 induction l with
 | nil=>intro g p r h;cases h
 | cons o l ih=>
  intro g p r h
  have step:(match QDd d l with|some (g,p,r')=>some (o::g,p,r')|none=>none)=some (g,p,r)→o::l=g++p::r∧∃x y,p.op=.pick (.tmp d) x y:=by
   intro h
   cases hs:QDd d l with
   | none=>rw[hs]at h;cases h
   | some t=>
    obtain⟨g',p',r'⟩:=t;rw[hs]at h;simp only[Option.some.injEq,Prod.mk.injEq]at h;obtain⟨rfl,rfl,rfl⟩:=h;obtain⟨e,hp⟩:=ih hs;exact⟨by rw[e];rfl,hp⟩
  unfold QDd at h;split at h
  ·rename_i c x y ho
   cases hb:Nat.beq c d with
   | false=>rw[hb]at h;exact step h
   | true=>
    rw[hb]at h;simp only[cond_true,Option.some.injEq,Prod.mk.injEq]at h;obtain⟨rfl,rfl,rfl⟩:=h;obtain rfl:=Nat.eq_of_beq_eq_true hb;exact⟨rfl,x,y,ho⟩
  ·exact step h
def QYx(P:Program)(o:Oper):Bool:=
 match o.op with
 | .move _=>true
 | .unOp .. => true
 | .binOp op xt _ _ _=>
  (match op with|.quo|.rem|.shl|.shr=>false|_=>true)&&(match P.underlying xt with|some (.int _)=>true|some .bool=>true|_=>false)
 | .call c=>(match c.callee with|.builtin .len=>true|_=>false)&&(match c.argTypes[0]? with|some t=>(match P.underlying t with|some .string=>true|some (.slice _)=>true|_=>false)|none=>false)
 | _=>false
def QDX(j:Nat)(b:Bool):Option (Nat×Bool)→Bool
 | some (j',b')=>Nat.beq j' j&&(bif b' then b else !b)
 | none=>false
def QJZ(P:Program)(N:Nat):List Oper→Env→Option Env
 | [],ρ=>some ρ
 | o::os,ρ=>bif QSO N ρ o then (match QVz P ρ o with
   | some (.value v)=>kpO ρ o.dst v fun ρ=>QJZ P N os ρ
   | _=>none) else none
def QJk(ops:List Oper)(N j d:Nat)(b:Bool):List Oper→List Nat→Bool
 | [],_=>true
 | o::os,ds=>(QDX j b o.guard||(match o.guard with|some (j',_)=>(match QFj ops j' with|some d'=>QBy d' ds|none=>false)|none=>false)) &&
   (match o.dst with|some t=>Nat.blt t N && !(Nat.beq t d)|none=>true) &&
   QJk ops N j d b os (match o.dst with|some t=>t::ds|none=>ds)
def QOL(ρ:Env):List Oper→Bool
 | []=>true
 | o::os=>(match o.dst with|some t=>!(has ρ t)|none=>true)&&QOL ρ os
def QFo:Operand→Bool
 | .const _=>true
 | _=>false
def QSv(o:Oper):Operand×Operand:=
 match o.op with
 | .pick _ a b=>(a,b)
 | _=>(.const undef,.const undef)
def QVQ(P:Program)(t:TypeId):Sh:=
 match QBX P 20 t with
 | [s]=>s
 | _=>.val
def QJo[Pan](P:Program)(N:Nat)(ops:List Oper):Nat→List Nat→List Oper→Env→(Env→WP)→WP
 | _,_,[],ρ,K=>K ρ
 | 0,_,_::_,_,_=>bad
 | f+1,dec,o::os,ρ,K=>match QTQ ops dec ρ o.guard with
  | some true=>bif QSO N ρ o then QBJ P o ρ fun ρ'=>QJo P N ops f dec os ρ' K else bad
  | some false=>bif (match o.dst with|some d=>Nat.blt d N|none=>true) then kp (fun ρ=>QJo P N ops f dec os ρ K) ρ o.dst undef else bad
  | none=>match o.guard with
   | none=>bad
   | some (j,b)=>match QFj ops j with
    | none=>bad
    | some d=>match has ρ d,gv ρ d,QDd d (o::os) with
     | true,.bool x,some (g,p,r)=>
      let ok:=QJk ops N j d b g []&&QOL ρ g&&QSO N ρ { p with op:=.move (.tmp d) } && (match QTQ ops dec ρ p.guard with|some true=>true|_=>false) && !(QBy j dec)
      let (pa,pb):=QSv p
      bif ok then
       bif g.all (fun o=>QYx P o&&QDX j b o.guard) then
        (match QJZ P N g ((d,.bool b)::ρ) with
         | some ρ'=>
          bif b then (bif QFo pb&&QNJ ρ' pa then kp (fun ρ=>QJo P N ops f dec r ρ K) ρ p.dst (QXK x pa pb (ev ρ' pa) (ev ρ pb)) else bad)
          else (bif QFo pa&&QNJ ρ' pb then kp (fun ρ=>QJo P N ops f dec r ρ K) ρ p.dst (QXK x pa pb (ev ρ pa) (ev ρ' pb)) else bad)
         | none=>bad)
       else
        let sh:=QVQ P p.type
        bif b then (bif QFo pb then
          fSh sh fun sh=>QBc [sh] (fun K'=>XIf x (QJo P N ops f (j::dec) g ((d,.bool true)::ρ) fun ρ'=>bif QNJ ρ' pa&&has ρ' d&&(match gv ρ' d with|.bool true=>true|_=>false) then Cur.appV [sh] K' [ev ρ' pa] else bad) (Cur.appV [sh] K' [ev ρ pb]))
           (Cur.of [sh] fun vs=>kp (fun ρ=>QJo P N ops f dec r ρ K) ρ p.dst (vs.headD undef)) else bad)
        else (bif QFo pa then
          fSh sh fun sh=>QBc [sh] (fun K'=>XIf x (Cur.appV [sh] K' [ev ρ pa]) (QJo P N ops f (j::dec) g ((d,.bool false)::ρ) fun ρ'=>bif QNJ ρ' pb&&has ρ' d&&(match gv ρ' d with|.bool false=>true|_=>false) then Cur.appV [sh] K' [ev ρ' pb] else bad))
           (Cur.of [sh] fun vs=>kp (fun ρ=>QJo P N ops f dec r ρ K) ρ p.dst (vs.headD undef)) else bad)
      else bad
     | _,_,_=>bad
def QNH(id:Nat):Code→Nat
 | .seq a b=>QNH id a+QNH id b
 | .cond _ a b=>QNH id a+QNH id b
 | .block _ b=>QNH id b
 | .scope b=>QNH id b
 | .loop b=>QNH id b
 | .exit i=>bif Nat.beq i id then 1 else 0
 | _=>0
def QKf:Code→Bool
 | .skip=>true
 | .region .. => true
 | .seq a b=>QKf a&&QKf b
 | .cond _ a b=>QKf a||QKf b
 | .block id b=>QKf b||Nat.blt 0 (QNH id b)
 | .label _=>true
 | .scope b=>QKf b
 | _=>false
def Qem(t:Nat)(l:List Nat):List Nat:=bif QBy t l then l else l++[t]
def QHf:List Oper→List Nat→List Nat
 | [],acc=>acc
 | o::os,acc=>QHf os (match o.dst with|some t=>Qem t acc|none=>acc)
def wr(ρ:Env):Code→List Nat→List Nat
 | .region _ ops _,acc=>QHf (ops.toList.filter fun o=>match o.dst with|some t=>has ρ t|none=>false) acc
 | .seq a b,acc=>wr ρ b (wr ρ a acc)
 | .cond _ a b,acc=>wr ρ b (wr ρ a acc)
 | .block _ b,acc=>wr ρ b acc
 | .scope b,acc=>wr ρ b acc
 | .loop b,acc=>wr ρ b acc
 | _,acc=>acc
def dom:Env→Nat→Nat
 | [],m=>m
 | (u,_)::r,m=>dom r (Nat.lor m (Nat.shiftLeft 1 u))
def Qd5:Env→Nat→(Nat→WP)→WP
 | [],m,f=>f m
 | (u,_)::r,m,f=>Qd5 r (Nat.lor m (Nat.shiftLeft 1 u)) f
theorem QPb:∀(ρ:Env) (m:Nat) (f:Nat→WP),Qd5 ρ m f=f (dom ρ m)
 | [],_,_=>rfl
 | (u,v)::r,m,f=>QPb r _ f
theorem QZI:∀(ρ:Env) (m t:Nat),(dom ρ m).testBit t=(m.testBit t||has ρ t)
 | [],m,t=>by simp[dom,has]
 | (u,v)::r,m,t=>by
  rw[dom,QZI r];show ((m ||| (1 <<< u)).testBit t||has r t)=_;rw[Nat.testBit_or,Nat.testBit_shiftLeft];rw[has]
  cases hb:Nat.beq u t with
  | true=>
   obtain rfl:=Nat.eq_of_beq_eq_true hb;simp
  | false=>
   have:u≠t:=fun e=>by subst e;simp at hb
   have h0:(decide (t≥u)&&Nat.testBit 1 (t - u))=false:=by
    rw[Bool.and_eq_false_iff];by_cases h:t≥u
    ·right
     cases hq:Nat.testBit 1 (t - u) with
     | false=>rfl
     | true=>have:=Nat.testBit_one_eq_true_iff_self_eq_zero.1 hq;omega
    ·left;simpa using h
   rw[h0];simp
def QaC(M:Nat):List Oper→List Nat→List Nat
 | [],acc=>acc
 | o::os,acc=>QaC M os (match o.dst with|some t=>bif M.testBit t then Qem t acc else acc|none=>acc)
def wr2(M:Nat):Code→List Nat→List Nat
 | .region _ ops _,acc=>QaC M ops.toList acc
 | .seq a b,acc=>wr2 M b (wr2 M a acc)
 | .cond _ a b,acc=>wr2 M b (wr2 M a acc)
 | .block _ b,acc=>wr2 M b acc
 | .scope b,acc=>wr2 M b acc
 | .loop b,acc=>wr2 M b acc
 | _,acc=>acc
theorem QT6(ρ:Env):∀(l:List Oper) (acc:List Nat),QaC (dom ρ 0) l acc=QHf (l.filter fun o=>match o.dst with|some t=>has ρ t|none=>false) acc
 | [],_=>rfl
 | o::os,acc=>by
  rw[QaC,QT6 ρ os,List.filter_cons]
  cases hd:o.dst with
  | none=>simp
  | some t=>
   simp only[QZI,Nat.zero_testBit,Bool.false_or];by_cases hh:has ρ t=true
   ·rw[if_pos hh,hh];simp only[cond_true,QHf,hd]
   ·rw[if_neg hh,Bool.eq_false_iff.2 hh];simp only[cond_false]
theorem QY2(ρ:Env)(c:Code):∀(acc:List Nat),wr2 (dom ρ 0) c acc=wr ρ c acc:=by
 induction c with
 | region i ops d=>intro acc;exact QT6 ρ _ acc
 | seq a b iha ihb=>intro acc;rw[wr2,wr,iha,ihb]
 | cond x a b iha ihb=>intro acc;rw[wr2,wr,iha,ihb]
 | block i b ih=>intro acc;rw[wr2,wr,ih]
 | scope b ih=>intro acc;rw[wr2,wr,ih]
 | loop b ih=>intro acc;rw[wr2,wr,ih]
 | _=>intro acc;rfl
def QSS:List Nat→List Value→Env→Env
 | t::ts,v::vs,ρ=>(t,v)::QSS ts vs ρ
 | _,_,ρ=>ρ
def Qe0(id:Nat):List (Nat×(Env→WP))→Env→WP
 | []=>fun _=>bad
 | (i,k)::r=>bif Nat.beq i id then k else Qe0 id r
def QI2(ws:List Nat):Env→Env
 | []=>[]
 | (u,v)::r=>bif QBy u ws then QI2 ws r else (u,v)::QI2 ws r
def QE3(dp:List Nat):List Nat→List Nat
 | []=>[]
 | t::r=>bif QBy t dp then QE3 dp r else t::QE3 dp r
def QGo(ρ:Env)(cs:List Nat):Bool:=cs.all (has ρ)
def wpC[Pan](P:Program)(N:Nat)(dp:List Nat)(dr:List Oper→Env→(Env→WP)→WP):Code→Env→(Env→WP)→List (Nat×(Env→WP))→(Env→WP)→WP
 | .skip,ρ,KN,_,_=>KN ρ
 | .label _,ρ,KN,_,_=>KN ρ
 | .region _ ops false,ρ,KN,_,_=>QJo P N ops.toList (ops.toList.length+1) [] ops.toList ρ KN
 | .region _ ops true,ρ,KN,_,_=>QFX (dr ops.toList ρ KN)
 | .seq a b,ρ,KN,KX,KR=>wpC P N dp dr a ρ (fun ρ'=>wpC P N dp dr b ρ' KN KX KR) KX KR
 | .cond c a b,ρ,KN,KX,KR=>bif QNJ ρ c then (match ev ρ c with
  | .bool x=>bif QKf a&&QKf b then
    (Qd5 ρ 0 fun M=>fNs (wr2 M b (wr2 M a [])) fun ws=>
     fNs (QE3 dp ws) fun cs=>
     fSs (cs.map fun t=>QZx (gv ρ t)) fun ss=>
     QBc ss (fun K=>XIf x (wpC P N dp dr a ρ (fun ρ'=>bif QGo ρ' cs then Cur.appV ss K (cs.map (gv ρ')) else bad) KX KR)
       (wpC P N dp dr b ρ (fun ρ'=>bif QGo ρ' cs then Cur.appV ss K (cs.map (gv ρ')) else bad) KX KR))
      (Cur.of ss fun vs=>fE (QSS cs vs (QI2 ws ρ)) KN))
   else XIf x (wpC P N dp dr a ρ KN KX KR) (wpC P N dp dr b ρ KN KX KR)
  | _=>bad) else bad
 | .block id b,ρ,KN,KX,KR=>
  bif Nat.blt 1 ((bif QKf b then 1 else 0)+QNH id b) then
   (Qd5 ρ 0 fun M=>fNs (wr2 M b []) fun ws=>
    fNs (QE3 dp ws) fun cs=>
    fSs (cs.map fun t=>QZx (gv ρ t)) fun ss=>
    QBc ss (fun K=>wpC P N dp dr b ρ (fun ρ'=>bif QGo ρ' cs then Cur.appV ss K (cs.map (gv ρ')) else bad)
      ((id,fun ρ'=>bif QGo ρ' cs then Cur.appV ss K (cs.map (gv ρ')) else bad)::KX) KR)
     (Cur.of ss fun vs=>fE (QSS cs vs (QI2 ws ρ)) KN))
  else wpC P N dp dr b ρ KN ((id,KN)::KX) KR
 | .loop b,ρ,_,KX,KR=>
  Qd5 ρ 0 fun M=>fNs (wr2 M b []) fun ws=>
  fNs (QE3 dp ws) fun cs=>
  fSs (cs.map fun t=>QZx (gv ρ t)) fun ss=>
  bif QGo ρ cs then
   Cur.appV ss (QGp ss fun K=>Cur.of ss fun vs=>fE (QSS cs vs (QI2 ws ρ)) fun ρ=>wpC P N dp dr b ρ (fun ρ'=>bif QGo ρ' cs then Cur.appV ss K (cs.map (gv ρ')) else bad) KX KR) (cs.map (gv ρ))
  else bad
 | .exit id,ρ,_,KX,_=>Qe0 id KX ρ
 | .scope b,ρ,KN,KX,KR=>wpC P N dp dr b ρ KN KX KR
 | .ret,ρ,_,_,KR=>KR ρ
 | _,_,_,_,_=>bad
def Qbc(P:Program)(ty:TypeId)(v:Value):Option (List Value):=
 bif QBj P ty then (match v with|.agg cs=>bif Nat.beq cs.toList.length (QBX P 20 ty).length then some cs.toList else none|_=>none) else some [v]
def QHr(P:Program):List (ResultVar×TypeId)→Env→List Value→(List Value→WP)→WP
 | [],_,acc,K=>K acc
 | (.tmp t,ty)::r,ρ,acc,K=>bif has ρ t then (match Qbc P ty (gv ρ t) with
  | some vs=>QHr P r ρ (acc++vs) K
  | none=>bad) else bad
 | (.cell t u,ty)::r,ρ,acc,K=>bif has ρ t&&Nat.beq u ty then (match gv ρ t with
  | .pointer (some a)=>bif QBj P ty then
    (match QHj P ty with|some n=>bif Nat.beq n (QBX P 20 ty).length then QFm (QBX P 20 ty) a 0 [] fun vs=>QHr P r ρ (acc++vs) K else bad|none=>bad)
   else (match QBX P 20 ty with
    | [s]=>fSh s fun s=>QAq s a fun x=>QHr P r ρ (acc++[s.mk x]) K
    | _=>bad)
  | _=>bad) else bad
def QAc(P:Program):List TypeId→Rs×List Sh
 | [t]=>bif QBj P t then (.agg,QBX P 20 t) else (.one,QBX P 20 t)
 | ts=>(.tup (ts.map fun u=>bif QBj P u then some (QBX P 20 u).length else none),ts.flatMap fun u=>QBX P 20 u)
def QLA:List Value→Nat→Env
 | [],_=>[]
 | v::vs,i=>(i,v)::QLA vs (i+1)
def wpF[Pan](P:Program)(dp:List Nat)(dr:Nat→List Oper→Env→(Env→WP)→WP)(fn:Func)(args:List Value)(ss:List Sh)(R:Cur ss):WP:=
 match fn.body with
 | some c=>
  let ret:Env→WP:=fun ρ=>QHr P (fn.results.toList.zip fn.resultTypes.toList) ρ [] fun vs=>Cur.appV ss R vs
  bif Nat.beq fn.results.toList.length fn.resultTypes.toList.length&&Nat.ble args.length fn.ntmps then wpC P fn.ntmps dp (dr fn.ntmps) c (QLA args 0) ret [] ret else bad
 | none=>bad
section
variable {P:Program}{rn:Option Nat}{dl:List Deferred}
theorem QRC{o:Oper}{ρ:Operand→Value}{v:Value}{w w':World}(h:(execOp ρ o).run P w=.ok (.value v) w'):∀c,o.op≠.defer c:=by
 intro c e;obtain⟨dst,op,type,pos,after,guard⟩:=o;simp only at e;subst e;simp only[execOp,Sem.run_bind]at h
 cases hres:(resolve ρ c type).run P w with
 | ok d w'=>rw[hres]at h;simp only[Result.andThen_ok,Sem.run_pure]at h;cases h
 | halt x w'=>rw[hres]at h;cases h
def wpL(rn:Option Nat)(P:Program)(ops:Array Oper)(Q:Exit→Act→World→Prop):List Oper→(Act→World→Prop)→Act→World→Prop
 | [],K,a,w=>K a w
 | o::os,K,a,w=>if Region.wanted o (yielded ops a.tmps) then o.wpIn (FF rn) 0 P a w (wpL rn P ops Q os K) Q else wpL rn P ops Q os K (a.put o.dst undef) w
theorem QQP{ops:Array Oper}{Q:Exit→Act→World→Prop}(l:List Oper):∀k,(∀j,l[j]? = ops[k+j]?∨l.length≤j)→∀a w,wpL rn P ops Q l (Q .normal) a w →
  wpOpsIn (FF rn) 0 P ops Q (List.range' k l.length) a w:=by
 induction l with
 | nil=>intro k _ a w h;exact h
 | cons o os ih=>
  intro k hk a w h
  have h0:ops[k]? = some o:=by
   rcases hk 0 with h|h
   ·simpa using h.symm
   ·simp at h
  have hr:∀j,os[j]? = ops[k+1+j]?∨os.length≤j:=fun j=>by
   rcases hk (j+1) with h|h
   ·left;simpa [Nat.add_assoc,Nat.add_comm 1 j]using h
   ·right;simp at h;omega
  simp only[List.length_cons,List.range'_succ,wpOpsIn,h0];simp only[wpL]at h;split at h
  ·rename_i hw
   rw[if_pos hw];exact Oper.wpIn_mono (fun a w h=>ih (k+1) hr a w h) h
  ·rename_i hw
   rw[if_neg hw];exact⟨fun _ _=>trivial,ih (k+1) hr _ _ h⟩
theorem QXB{ops:Array Oper}{Q:Exit→Act→World→Prop}(l l':List Oper)(K:Act→World→Prop):wpL rn P ops Q (l++l') K=wpL rn P ops Q l (wpL rn P ops Q l' K):=by
 induction l with
 | nil=>rfl
 | cons o os ih=>funext a w;simp only[List.cons_append,wpL,ih]
theorem QN8{N:Nat}{ops:Array Oper}{ρ:Env}{a:Act}(hf:Fits N dl ρ a){j d:Nat}{x:Bool}(hd:QFj ops.toList j=some d)(hh:has ρ d=true)(hv:gv ρ d=.bool x) :
  yielded ops a.tmps j=some x:=by
 unfold QFj at hd;have hg:=hf.get d hh
 cases ho:ops.toList[j]? with
 | none=>rw[ho]at hd;cases hd
 | some o=>
  rw[ho]at hd
  have ho':ops[j]? = some o:=by simpa using ho
  simp only[yielded,ho',Option.bind_some,hd,hg,hv]
theorem QLm{N:Nat}{ops:Array Oper}{dec:List Nat}{ρ:Env}{a:Act}(hf:Fits N dl ρ a){o:Oper}{r:Bool}(h:QTQ ops.toList dec ρ o.guard=some r) :
  Region.wanted o (yielded ops a.tmps)=r:=by
 unfold Region.wanted
 cases hg:o.guard with
 | none=>rw[hg]at h;simp only[QTQ,Option.some.injEq]at h;rw[←h]
 | some gb=>
  obtain⟨j,b⟩:=gb;rw[hg]at h;simp only[QTQ]at h
  cases hm:QBy j dec with
  | false=>rw[hm]at h;cases h
  | true=>
   rw[hm]at h;simp only[cond_true]at h
   cases hd:QFj ops.toList j with
   | none=>rw[hd]at h;cases h
   | some d=>
    rw[hd]at h;simp only at h
    cases hh:has ρ d with
    | false=>rw[hh]at h;cases h
    | true=>
     rw[hh]at h;simp only[cond_true]at h;cases hv:gv ρ d<;>rw[hv]at h<;>simp only[reduceCtorEq,Option.some.injEq]at h
     rename_i x
     simp only[QN8 hf hd hh hv];cases x<;>cases b<;>simp_all
def Leaves(l:List Oper)(Fr:Act→Prop):Prop:=∀o∈l,∀a v,Fr a→Fr (a.put o.dst v)
theorem Leaves.tail{o:Oper}{l:List Oper}{Fr:Act→Prop}(h:Leaves (o::l) Fr):Leaves l Fr:=fun o' ho=>h o' (List.mem_cons_of_mem _ ho)
theorem QPm{N:Nat}{ops:Array Oper}{Q:Exit→Act→World→Prop}{Fr:Act→Prop}{j d:Nat}{b:Bool}(hd:QFj ops.toList j=some d):∀(l:List Oper) {ρ ρ':Env}{a:Act}{w:World}{KA:Act→World→Prop},QJZ P N l ρ=some ρ'→Fits N dl ρ a →
  (∀o∈l,QDX j b o.guard=true∧o.dst≠some d)→has ρ d=true→gv ρ d=.bool b→Leaves l Fr→Fr a →
  (∀a',Fits N dl ρ' a'→has ρ' d=true→gv ρ' d=.bool b→Fr a'→KA a' w)→wpL rn P ops Q l KA a w:=by
 intro l
 induction l with
 | nil=>
  intro ρ ρ' a w KA h hf _ hh hv _ hfr hk;simp only[QJZ,Option.some.injEq]at h;subst h;exact hk a hf hh hv hfr
 | cons o os ih=>
  intro ρ ρ' a w KA h hf hg hh hv hl hfr hk;simp only[QJZ,QUe,Qd4]at h
  cases hok:QSO N ρ o with
  | false=>rw[hok]at h;cases h
  | true=>
  rw[hok]at h;simp only[cond_true]at h
  cases hp:QA1 P (execOp (ev ρ) o) with
  | none=>rw[hp]at h;cases h
  | some n=>
   rw[hp]at h;cases n<;>simp only[reduceCtorEq]at h
   rename_i v
   obtain⟨hgo,hne⟩:=hg o (List.mem_cons_self ..);have hy:=QN8 hf hd hh hv
   have hw:Region.wanted o (yielded ops a.tmps)=true:=by
    cases hg':o.guard with
    | none=>simp[Region.wanted,hg']
    | some jb=>
     obtain⟨j',b'⟩:=jb;rw[hg']at hgo;simp only[QDX,Bool.and_eq_true]at hgo;have hj:=Nat.eq_of_beq_eq_true hgo.1;subst hj;simp only[Region.wanted,hg',hy];cases b<;>cases b'<;>simp_all
   simp only[wpL,hw,if_true];simp only[QSO,Bool.and_eq_true,List.all_eq_true]at hok;obtain⟨⟨hall,hd'⟩,hs⟩:=hok
   have he:execOp a.eval o=execOp (ev ρ) o:=
    execOp_congr _ (fun cs b e=>by rw[e]at hs;simp at hs) fun x hx=>hf.eval (hall x (by simpa using hx))
   refine QHH (QRC (QIG _ _ hp w)) ?_;unfold Oper.wp;rw[he,QIG _ _ hp w]
   have hdl:∀t,o.dst=some t→t<N:=fun t e=>by rw[e]at hd';simpa [Nat.blt_eq]using hd'
   refine ih h (hf.put hdl) (fun o' ho'=>hg o' (List.mem_cons_of_mem _ ho')) ?_ ?_ hl.tail (hl o (List.mem_cons_self ..) _ _ hfr) hk
   ·cases hod:o.dst with
    | none=>simpa [put]using hh
    | some t=>
     simp only[put,QCv,hh];cases Nat.beq t d<;>rfl
   ·cases hod:o.dst with
    | none=>simpa [put]using hv
    | some t=>
     have ht:Nat.beq t d=false:=by
      cases hb:Nat.beq t d with
      | false=>rfl
      | true=>rw[hod,Nat.eq_of_beq_eq_true hb]at hne;exact absurd rfl hne
     simp only[put,QCy,ht,cond_false,hv]
theorem QBa{t:Nat}{l:List Nat}:QBy t l=true↔t∈l:=by
 induction l with
 | nil=>simp[QBy]
 | cons u r ih=>
  simp only[QBy]
  cases hb:Nat.beq u t with
  | true=>have:=Nat.eq_of_beq_eq_true hb;simp[this]
  | false=>
   have:u≠t:=fun e=>by subst e;simp at hb
   simp only[cond_false,ih,List.mem_cons];constructor
   ·exact fun h=>.inr h
   ·rintro (h|h)
    ·exact absurd h.symm this
    ·exact h
theorem QPh{N j d:Nat}{b:Bool}{ops:Array Oper}{Q:Exit→Act→World→Prop}{Fr:Act→Prop}(hd:QFj ops.toList j=some d):∀(l:List Oper) (ds:List Nat) {ρ:Env}{a:Act}{w:World}{KA:Act→World→Prop},
  QJk ops.toList N j d b l ds=true→QOL ρ l=true→Fits N dl ρ a→a.tmps[d]? = some (.bool !b)→(∀t∈ds,a.tmps[t]? = some undef)→Leaves l Fr→Fr a →
  (∀a',Fits N dl ρ a'→Fr a'→KA a' w)→wpL rn P ops Q l KA a w:=by
 intro l
 induction l with
 | nil=>intro ds ρ a w KA _ _ hf _ _ _ hfr hk;exact hk a hf hfr
 | cons o os ih=>
  intro ds ρ a w KA h hno hf hv hu hl hfr hk;have hfr':=hl o (List.mem_cons_self ..) a undef hfr;simp only[QJk,Bool.and_eq_true,Bool.or_eq_true]at h;obtain⟨⟨hg,hdd⟩,h⟩:=h;simp only[QOL,Bool.and_eq_true]at hno;obtain⟨hno1,hno⟩:=hno
  have hw:Region.wanted o (yielded ops a.tmps)=false:=by
   rcases hg with hg|hg
   ·cases hgo:o.guard with
    | none=>rw[hgo]at hg;simp[QDX]at hg
    | some jb=>
     obtain⟨j',b'⟩:=jb;rw[hgo]at hg;simp only[QDX,Bool.and_eq_true]at hg;obtain⟨hj,hb⟩:=hg;have hj:=Nat.eq_of_beq_eq_true hj;subst hj;unfold QFj at hd
     cases ho:ops.toList[j']? with
     | none=>rw[ho]at hd;cases hd
     | some oj=>
      rw[ho]at hd
      have ho':ops[j']? = some oj:=by simpa using ho
      have hy:yielded ops a.tmps j'=some !b:=by simp[yielded,ho',hd,hv]
      simp only[Region.wanted,hgo,hy];cases b<;>cases b'<;>simp_all
   ·cases hgo:o.guard with
    | none=>rw[hgo]at hg;cases hg
    | some jb=>
     obtain⟨j',b'⟩:=jb;rw[hgo]at hg;simp only at hg
     cases hdj:QFj ops.toList j' with
     | none=>rw[hdj]at hg;cases hg
     | some d'=>
      rw[hdj]at hg;have hun:=hu d' (QBa.1 hg);unfold QFj at hdj
      cases ho:ops.toList[j']? with
      | none=>rw[ho]at hdj;cases hdj
      | some oj=>
       rw[ho]at hdj
       have ho':ops[j']? = some oj:=by simpa using ho
       have hy:yielded ops a.tmps j'=none:=by simp[yielded,ho',hdj,hun,undef]
       simp[Region.wanted,hgo,hy]
  simp only[wpL,hw,Bool.false_eq_true,if_false]
  cases hod:o.dst with
  | none=>
   rw[hod]at h;rw[hod]at hfr';exact ih ds h hno hf hv hu hl.tail hfr' hk
  | some t=>
   rw[hod]at h hdd hno1 hfr';simp only[Bool.and_eq_true,Nat.blt_eq,Bool.not_eq_true']at hdd hno1
   have htd:t≠d:=fun e=>by subst e;simp at hdd
   refine ih (t::ds) h hno ⟨by simpa [Act.put]using hf.size,hf.defs,fun u hu'=>?_⟩ ?_ ?_ hl.tail hfr' hk
   ·have:t≠u:=fun e=>by subst e;rw[hno1]at hu';cases hu'
    simp only[Act.put];rw[Array.getElem?_setIfInBounds_ne this];exact hf.get u hu'
   ·simp only[Act.put];rw[Array.getElem?_setIfInBounds_ne htd];exact hv
   ·intro u hu';simp only[Act.put];by_cases e:t=u
    ·subst e;rw[Array.getElem?_setIfInBounds_self_of_lt (by have:=hf.size;omega)]
    ·rw[Array.getElem?_setIfInBounds_ne e];exact hu u (by simpa [Ne.symm e]using hu')
theorem Fits.cons{N:Nat}{ρ:Env}{a:Act}(hf:Fits N dl ρ a){d:Nat}{v:Value}(h:a.tmps[d]? = some v):Fits N dl ((d,v)::ρ) a:=
 ⟨hf.size,hf.defs,fun t ht=>by
  rw[QCv]at ht;rw[QCy]
  cases hb:Nat.beq d t with
  | true=>rw[←Nat.eq_of_beq_eq_true hb];exact h
  | false=>rw[hb]at ht;exact hf.get t ht⟩
theorem Qcm{N:Nat}{ops:Array Oper}{Q:Exit→Act→World→Prop}{ρ:Env}{a:Act}{w:World}{p:Oper}{d:Nat}{x:Bool}{pa pb:Operand}{KA:Act→World→Prop}{dec:List Nat}{rest:List Oper}
  (hp:p.op=.pick (.tmp d) pa pb) (hf:Fits N dl ρ a) (hv:a.tmps[d]? = some (.bool x)) (hg:QTQ ops.toList dec ρ p.guard=some true)
  (v:Value) (hval:(if x then a.eval pa else a.eval pb)=v) (hk:wpL rn P ops Q rest KA (a.put p.dst v) w):wpL rn P ops Q (p::rest) KA a w:=by
 simp only[wpL,QLm hf hg,if_true]
 have hx:a.eval (.tmp d)=.bool x:=by simp[Act.eval,Array.getD_eq_getD_getElem?,hv]
 have hr:(execOp a.eval p).run P w=.ok (.value v) w:=by
  simp only[execOp,hp,hx,asBool,Sem.run_bind,Sem.run_pure,Result.andThen_ok,hval]
 refine QHH (fun c e=>by rw[hp]at e;cases e) ?_;unfold Oper.wp;rw[hr];exact hk
theorem QR6{x:Operand}(h:QFo x=true)(a:Act)(ρ:Env):a.eval x=ev ρ x:=by
 cases x<;>first|rfl|(simp[QFo]at h)
theorem QKw{sh:Sh}{k:Cur [sh]}{v:Value}{w:World}(h:Cur.appV [sh] k [v] w):∃x,sh.mk x=v∧k x w:=by
 obtain⟨t,ht,h⟩:=Cur.appV_app _ _ _ _ h;exact⟨t.1,by simpa [Tup.vals]using ht,h⟩
theorem QPi{N:Nat}{ρ:Env}:∀{l:List Oper},QOL ρ l=true→Leaves l (Fits N dl ρ):=by
 intro l h o ho a v hf
 induction l with
 | nil=>cases ho
 | cons o' os ih=>
  simp only[QOL,Bool.and_eq_true]at h;rcases List.mem_cons.1 ho with e|ho
  ·subst e
   cases hod:o.dst with
   | none=>exact hf
   | some t=>
    have h1:=h.1;rw[hod]at h1;simp only[Bool.not_eq_true']at h1;refine⟨by simpa [Act.put]using hf.size,hf.defs,fun u hu'=>?_⟩
    have:t≠u:=fun e=>by subst e;rw[h1]at hu';cases hu'
    simp only[Act.put];rw[Array.getElem?_setIfInBounds_ne this];exact hf.get u hu'
  ·exact ih h.2 ho
theorem Leaves.and{l:List Oper}{A B:Act→Prop}(h:Leaves l A)(k:Leaves l B):Leaves l fun a=>A a∧B a:=fun o ho a v hab=>⟨h o ho a v hab.1,k o ho a v hab.2⟩
theorem Leaves.left{l l':List Oper}{A:Act→Prop}(h:Leaves (l++l') A):Leaves l A:=fun o ho=>h o (List.mem_append_left _ ho)
theorem Leaves.right{l l':List Oper}{A:Act→Prop}(h:Leaves (l++l') A):Leaves l' A:=fun o ho=>h o (List.mem_append_right _ ho)
theorem QTU{ops:List Oper}{N j d:Nat}{b:Bool}:∀{l:List Oper}{ds:List Nat},QJk ops N j d b l ds=true→∀o∈l,o.dst≠some d:=by
 intro l
 induction l with
 | nil=>intro ds _ o ho;cases ho
 | cons o' os ih=>
  intro ds h o ho;simp only[QJk,Bool.and_eq_true]at h;rcases List.mem_cons.1 ho with e|ho
  ·subst e;intro e;have:=h.1.2;rw[e]at this;simp at this
  ·exact ih h.2 o ho
def PanQ[Pan](dl:List Deferred)(Fr:Act→Prop)(Q:Exit→Act→World→Prop):Prop:=∀(a:Act) (w:World),a.defers=dl→Fr a→Pan.q w→Q (.panic Pan.ch) a w
theorem PanQ.of[Pan]{dl:List Deferred}{Fr Fr':Act→Prop}{Q:Exit→Act→World→Prop}(h:PanQ dl Fr Q)(k:∀a,Fr' a→Fr a):PanQ dl Fr' Q:=fun a w hd hf hq=>h a w hd (k a hf) hq
set_option maxHeartbeats 1000000 in
theorem QSk[Pan](hn:QI5 P){N:Nat}{ops:Array Oper}{Q:Exit→Act→World→Prop}:∀(f:Nat) (dec:List Nat) (l:List Oper) {Fr:Act→Prop}{ρ:Env}{K:Env→WP}{a:Act}{w:World}{KA:Act→World→Prop},
  PanQ dl Fr Q→QJo P N ops.toList f dec l ρ K w→Fits N dl ρ a→Leaves l Fr→Fr a→(∀ρ' a' w',Fits N dl ρ' a'→Fr a'→K ρ' w'→KA a' w')→wpL rn P ops Q l KA a w:=by
 intro f
 induction f with
 | zero=>
  intro dec l Fr ρ K a w KA hpq h hf _ hfr hk
  cases l with
  | nil=>exact hk _ _ _ hf hfr h
  | cons o os=>exact h.elim
 | succ f ih=>
  intro dec l Fr ρ K a w KA hpq h hf hlv hfr hk
  cases l with
  | nil=>exact hk _ _ _ hf hfr h
  | cons o os=>
  simp only[QJo]at h
  cases hgs:QTQ ops.toList dec ρ o.guard with
  | some r=>
   rw[hgs]at h;have hw:=QLm hf hgs
   cases r with
   | true=>
    obtain⟨hok,h⟩:=QAI h
    have hd':∀t,o.dst=some t→t<N:=fun t e=>by
     simp only[QSO,Bool.and_eq_true]at hok;have:=hok.1.2;rw[e]at this;simpa [Nat.blt_eq]using this
    simp only[wpL,hw,if_true];exact QTZ hn (fun w' hq=>hpq a w' hf.defs hfr hq) hf hok h fun v w' h'=>ih dec os hpq h' (hf.put hd') hlv.tail (hlv o (List.mem_cons_self ..) _ _ hfr) hk
   | false=>
    obtain⟨hd,h⟩:=QAI h;simp only[wpL,hw,Bool.false_eq_true,if_false];rw[QCD]at h;refine ih dec os hpq h (hf.put fun t e=>?_) hlv.tail (hlv o (List.mem_cons_self ..) _ _ hfr) hk;rw[e]at hd;simpa [Nat.blt_eq]using hd
  | none=>
   rw[hgs]at h
   cases hgo:o.guard with
   | none=>rw[hgo]at h;exact h.elim
   | some jb=>
   obtain⟨j,b⟩:=jb;rw[hgo]at h;simp only at h
   cases hd:QFj ops.toList j with
   | none=>rw[hd]at h;exact h.elim
   | some d=>
   rw[hd]at h;simp only at h
   cases hh:has ρ d with
   | false=>rw[hh]at h;exact h.elim
   | true=>
   rw[hh]at h;cases hv:gv ρ d <;> (try (rw[hv]at h;exact h.elim))
   rename_i x
   rw[hv]at h
   cases hsp:QDd d (o::os) with
   | none=>rw[hsp]at h;exact h.elim
   | some t=>
   obtain⟨g,p,r⟩:=t;rw[hsp]at h;simp only at h;obtain⟨hl,pa,pb,hp⟩:=QQQ hsp
   have hpo:QSv p=(pa,pb):=by simp[QSv,hp]
   rw[hpo]at h;simp only at h;obtain⟨hok,h⟩:=QAI h;simp only[Bool.and_eq_true,Bool.not_eq_true']at hok;obtain⟨⟨⟨⟨hskip,hno⟩,hpk⟩,hpg⟩,_⟩:=hok
   have hpg':QTQ ops.toList dec ρ p.guard=some true:=by
    cases hq:QTQ ops.toList dec ρ p.guard with
    | none=>rw[hq]at hpg;cases hpg
    | some u=>rw[hq]at hpg;cases u<;>simp_all
   have hpd:∀t,p.dst=some t→t<N:=fun t e=>by
    simp only[QSO,Bool.and_eq_true]at hpk;have:=hpk.1.2;rw[e]at this;simpa [Nat.blt_eq]using this
   have hvx:a.tmps[d]? = some (.bool x):=by rw[←hv];exact hf.get d hh
   rw[hl]at hlv⊢;rw[QXB];have hlg:Leaves g fun a=>Fr a∧Fits N dl ρ a:=hlv.left.and (QPi hno);have hlr:Leaves r Fr:=hlv.right.tail;have hlp:∀a v,Fr a→Fr (a.put p.dst v):=hlv.right p (List.mem_cons_self ..)
   -- behind the group: the pick, and the rest
   have rest:∀(a':Act) (w':World) (v:Value),Fits N dl ρ a'→Fr a'→(if x then a'.eval pa else a'.eval pb)=v→QJo P N ops.toList f dec r (put ρ p.dst v) K w'→wpL rn P ops Q (p::r) KA a' w':=by
    intro a' w' v hf' hfr' hval h'
    have hv':a'.tmps[d]? = some (.bool x):=by rw[←hv];exact hf'.get d hh
    exact Qcm hp hf' hv' hpg' v hval (ih dec r hpq h' (hf'.put hpd) hlr (hlp _ _ hfr') hk)
   have skip:x = !b→QFo (if x then pa else pb)=true→QJo P N ops.toList f dec r (put ρ p.dst (if x then ev ρ pa else ev ρ pb)) K w→wpL rn P ops Q g (wpL rn P ops Q (p::r) KA) a w:=by
    intro hxb hc h'
    have hvx':a.tmps[d]? = some (.bool !b):=by rw[hvx,hxb]
    refine QPh (Fr:=Fr) hd g [] hskip hno hf hvx' (fun t ht=>by cases ht) hlv.left hfr fun a' hf' hfr'=>?_;refine rest a' w _ hf' hfr' ?_ h';cases x<;>simp only[Bool.false_eq_true,if_false,if_true]at hc⊢ <;> exact QR6 hc a' ρ
   cases hall:g.all (fun o=>QYx P o&&QDX j b o.guard) with
   | true=>
    rw[hall]at h;simp only[cond_true]at h
    cases hps:QJZ P N g ((d,.bool b)::ρ) with
    | none=>rw[hps]at h;exact h.elim
    | some ρ'=>
    rw[hps]at h
    have hsg:∀o∈g,QDX j b o.guard=true∧o.dst≠some d:=fun o ho=>by
     have:=(List.all_eq_true.1 hall) o ho;simp only[Bool.and_eq_true]at this;exact⟨this.2,QTU hskip o ho⟩
    have run:x=b→(∀a',Fits N dl ρ' a'→Fits N dl ρ a'→Fr a'→wpL rn P ops Q (p::r) KA a' w)→wpL rn P ops Q g (wpL rn P ops Q (p::r) KA) a w:=by
     intro hxb hkk;subst hxb;refine QPm (Fr:=fun a=>Fr a∧Fits N dl ρ a) hd g hps (hf.cons hvx) hsg (by simp[QCv]) (by simp[QCy]) hlg ⟨hfr,hf⟩ fun a' hf' _ _ hfr'=>hkk a' hf' hfr'.2 hfr'.1
    cases b with
    | true=>
     obtain⟨hc,h⟩:=QAI h;simp only[Bool.and_eq_true]at hc;simp only[QCD,QPG,QPZ]at h
     cases x with
     | true=>exact run rfl fun a' hf' hf2 hfr'=>rest a' w _ hf2 hfr' (by rw[if_pos rfl];exact hf'.eval hc.2) h
     | false=>exact skip rfl hc.1 h
    | false=>
     obtain⟨hc,h⟩:=QAI h;simp only[Bool.and_eq_true]at hc;simp only[QCD,QPG,QPZ]at h
     cases x with
     | true=>exact skip rfl hc.1 h
     | false=>exact run rfl fun a' hf' hf2 hfr'=>rest a' w _ hf2 hfr' (by rw[if_neg Bool.false_ne_true];exact hf'.eval hc.2) h
   | false=>
    rw[hall]at h;simp only[cond_false]at h
    cases b with
    | true=>
     obtain⟨hc,h⟩:=QAI h;simp only[QBW,QCD]at h;obtain⟨ht,hfa⟩:=h
     cases x with
     | false=>
      obtain⟨y,hy,h'⟩:=QKw (hfa rfl);refine skip rfl hc ?_;simp only[Cur.of,hy,List.headD_cons]at h';exact h'
     | true=>
      refine ih (j::dec) g (hpq.of fun _ h=>h.1) (ht rfl) (hf.cons hvx) hlg ⟨hfr,hf⟩ fun ρ' a' w' hf' hfr' h'=>?_;obtain⟨hb,h'⟩:=QAI h';simp only[Bool.and_eq_true]at hb;obtain⟨y,hy,h'⟩:=QKw h';simp only[Cur.of,hy,List.headD_cons]at h';exact rest a' w' _ hfr'.2 hfr'.1 (by rw[if_pos rfl];exact hf'.eval hb.1.1) h'
    | false=>
     obtain⟨hc,h⟩:=QAI h;simp only[QBW,QCD]at h;obtain⟨ht,hfa⟩:=h
     cases x with
     | true=>
      obtain⟨y,hy,h'⟩:=QKw (ht rfl);refine skip rfl hc ?_;simp only[Cur.of,hy,List.headD_cons]at h';exact h'
     | false=>
      refine ih (j::dec) g (hpq.of fun _ h=>h.1) (hfa rfl) (hf.cons hvx) hlg ⟨hfr,hf⟩ fun ρ' a' w' hf' hfr' h'=>?_;obtain⟨hb,h'⟩:=QAI h';simp only[Bool.and_eq_true]at hb;obtain⟨y,hy,h'⟩:=QKw h';simp only[Cur.of,hy,List.headD_cons]at h';exact rest a' w' _ hfr'.2 hfr'.1 (by rw[if_neg Bool.false_ne_true];exact hf'.eval hb.1.1) h'
end
end Go.Cf
namespace Go.Cf
open Go
section
variable {P:Program}{rn:Option Nat}{dl:List Deferred}
def LeavesC:Code→(Act→Prop)→Prop
 | .region _ ops _,Fr=>Leaves ops.toList Fr
 | .seq a b,Fr=>LeavesC a Fr∧LeavesC b Fr
 | .cond _ a b,Fr=>LeavesC a Fr∧LeavesC b Fr
 | .block _ b,Fr=>LeavesC b Fr
 | .scope b,Fr=>LeavesC b Fr
 | .loop b,Fr=>LeavesC b Fr
 | _,_=>True
theorem LeavesC.and{A B:Act→Prop}:∀{c:Code},LeavesC c A→LeavesC c B→LeavesC c fun a=>A a∧B a:=by
 intro c
 induction c with
 | region _ ops _=>exact fun h k=>Leaves.and h k
 | seq a b iha ihb=>exact fun h k=>⟨iha h.1 k.1,ihb h.2 k.2⟩
 | cond _ a b iha ihb=>exact fun h k=>⟨iha h.1 k.1,ihb h.2 k.2⟩
 | block _ b ih=>exact fun h k=>ih h k
 | scope b ih=>exact fun h k=>ih h k
 | loop b ih=>exact fun h k=>ih h k
 | _=>exact fun _ _=>trivial
structure Keep(N:Nat)(dl:List Deferred)(ρ:Env)(cs:List Nat)(a:Act):Prop where
 size:N≤a.tmps.size
 defs:a.defers=dl
 get:∀t,has ρ t=true→QBy t cs=false→a.tmps[t]? = some (gv ρ t)
theorem QRJ{t u:Nat}{l:List Nat}:QBy t (Qem u l)=true↔t=u∨QBy t l=true:=by
 unfold Qem
 cases h:QBy u l with
 | true=>
  simp only[cond_true];constructor
  ·exact .inr
  ·rintro (rfl|h')
   ·exact h
   ·exact h'
 | false=>
  simp only[cond_false];rw[QBa,QBa,List.mem_append,List.mem_singleton];exact⟨fun h=>h.symm,fun h=>h.symm⟩
theorem QJp{t:Nat}:∀(l:List Oper) (acc:List Nat),QBy t (QHf l acc)=true↔QBy t acc=true∨∃o∈l,o.dst=some t:=by
 intro l
 induction l with
 | nil=>intro acc;simp[QHf]
 | cons o os ih=>
  intro acc;unfold QHf;rw[ih]
  cases hd:o.dst with
  | none=>simp[hd]
  | some u=>
   simp only[QRJ,List.mem_cons,exists_eq_or_imp,hd,Option.some.injEq];constructor
   ·rintro ((rfl|h)|h)
    ·exact .inr (.inl rfl)
    ·exact .inl h
    ·exact .inr (.inr h)
   ·rintro (h|rfl|h)
    ·exact .inl (.inr h)
    ·exact .inl (.inl rfl)
    ·exact .inr h
theorem QS6{ρ:Env}{t:Nat}:∀(c:Code) (acc:List Nat),QBy t acc=true→QBy t (wr ρ c acc)=true:=by
 intro c
 induction c with
 | region _ ops _=>exact fun acc h=>(QJp _ _).2 (.inl h)
 | seq a b iha ihb=>exact fun acc h=>ihb _ (iha _ h)
 | cond _ a b iha ihb=>exact fun acc h=>ihb _ (iha _ h)
 | block _ b ih=>exact fun acc h=>ih _ h
 | scope b ih=>exact fun acc h=>ih _ h
 | loop b ih=>exact fun acc h=>ih _ h
 | _=>exact fun acc h=>h
theorem QGq{N:Nat}{ρ:Env}{cs:List Nat}:∀(c:Code) (acc:List Nat),(∀t,QBy t (wr ρ c acc)=true→QBy t cs=true)→LeavesC c (Keep N dl ρ cs):=by
 intro c
 induction c with
 | region _ ops _=>
  intro acc h o ho a v hk
  cases hd:o.dst with
  | none=>exact hk
  | some t=>
   refine⟨by simpa [Act.put]using hk.size,hk.defs,fun u hu hm=>?_⟩
   have hne:t≠u:=by
    intro e;subst e;have:=h t ((QJp _ _).2 (.inr ⟨o,by simp only[List.mem_filter];exact⟨ho,by rw[hd];exact hu⟩,hd⟩));rw[this]at hm;cases hm
   simp only[Act.put];rw[Array.getElem?_setIfInBounds_ne hne];exact hk.get u hu hm
 | seq a b iha ihb=>exact fun acc h=>⟨iha acc fun t ht=>h t (QS6 b _ ht),ihb _ h⟩
 | cond _ a b iha ihb=>exact fun acc h=>⟨iha acc fun t ht=>h t (QS6 b _ ht),ihb _ h⟩
 | block _ b ih=>exact fun acc h=>ih acc h
 | scope b ih=>exact fun acc h=>ih acc h
 | loop b ih=>exact fun acc h=>ih acc h
 | _=>exact fun _ _=>trivial
theorem QUi{ρ:Env}{t:Nat}:∀(cs:List Nat) (vs:List Value),QBy t cs=false→has (QSS cs vs ρ) t=has ρ t∧gv (QSS cs vs ρ) t=gv ρ t:=by
 intro cs
 induction cs with
 | nil=>intro vs _;cases vs<;>exact⟨rfl,rfl⟩
 | cons c cs ih=>
  intro vs h
  cases vs with
  | nil=>exact⟨rfl,rfl⟩
  | cons v vs=>
   simp only[QBy]at h
   cases hb:Nat.beq c t with
   | true=>rw[hb]at h;cases h
   | false=>
    rw[hb]at h;simp only[QSS,QCv,QCy,hb,cond_false];exact ih vs h
theorem QY0{ρ:Env}{f:Nat→Value}{t:Nat}:∀(cs:List Nat),QBy t cs=true→gv (QSS cs (cs.map f) ρ) t=f t:=by
 intro cs
 induction cs with
 | nil=>intro h;cases h
 | cons c cs ih=>
  intro h;simp only[List.map_cons,QSS,QCy]
  cases hb:Nat.beq c t with
  | true=>rw[Nat.eq_of_beq_eq_true hb];rfl
  | false=>
   simp only[QBy,hb,cond_false]at h;exact ih h
theorem QZR{ws:List Nat}{t:Nat}:∀{ρ:Env},has (QI2 ws ρ) t=true→QBy t ws=false∧has ρ t=true∧gv (QI2 ws ρ) t=gv ρ t:=by
 intro ρ
 induction ρ with
 | nil=>intro h;cases h
 | cons p ρ ih=>
  obtain⟨u,v⟩:=p;intro h;simp only[QI2]at h⊢
  cases hm:QBy u ws with
  | true=>
   rw[hm]at h;simp only[cond_true]at h⊢;obtain⟨h1,h2,h3⟩:=ih h
   have hne:Nat.beq u t=false:=by
    cases hb:Nat.beq u t with
    | false=>rfl
    | true=>rw[Nat.eq_of_beq_eq_true hb]at hm;rw[hm]at h1;cases h1
   exact⟨h1,by simp only[QCv,hne,cond_false,h2],by simp only[QCy,hne,cond_false,h3]⟩
  | false=>
   rw[hm]at h;simp only[cond_false,QCv,QCy]at h⊢
   cases hb:Nat.beq u t with
   | true=>rw[Nat.eq_of_beq_eq_true hb]at hm;exact⟨hm,rfl,rfl⟩
   | false=>
    rw[hb]at h;exact ih h
theorem Keep.fits{N:Nat}{ρ:Env}{ws:List Nat}{a:Act}(hk:Keep N dl ρ ws a)(cs:List Nat)(f:Nat→Value)(hf:∀t,QBy t cs=true→a.tmps[t]? = some (f t)):Fits N dl (QSS cs (cs.map f) (QI2 ws ρ)) a:=
 ⟨hk.size,hk.defs,fun t ht=>by
  cases hm:QBy t cs with
  | true=>rw[QY0 cs hm];exact hf t hm
  | false=>
   obtain⟨h1,h2⟩:=QUi (ρ:=QI2 ws ρ) cs (cs.map f) hm;rw[h1]at ht;obtain⟨h3,h4,h5⟩:=QZR ht;rw[h2,h5]
   exact hk.get t h4 h3⟩
theorem QFM{N:Nat}{ρ:Env}{cs:List Nat}{a:Act}(hf:Fits N dl ρ a)(h:QGo ρ cs=true):∀t,QBy t cs=true→a.tmps[t]? = some (gv ρ t):=fun t ht=>
 hf.get t (List.all_eq_true.1 h t (QBa.1 ht))
theorem Fits.keep{N:Nat}{ρ:Env}{a:Act}(hf:Fits N dl ρ a)(cs:List Nat):Keep N dl ρ cs a:=⟨hf.size,hf.defs,fun t ht _=>hf.get t ht⟩
theorem QIL{F:Fence}{n:Nat}{c:Code}{Q:Exit→Act→World→Prop}{a:Act}{w:World}(h:c.wpIn F n P (Exit.noGoto Q) a w):(Code.scope c).wpIn F n P Q a w:=by
 intro b k cs hro hb hr;have s1:∀(a:Act) (k:List Item) (w:World),step P (lone (b.atR a (.code (.scope c)::k)) cs w)=.next (lone (b.atR a (.code c :: .inScope c::k)) cs w):=fun a k w=>step_lone_go (by simp[stepG,stepG.exec,Frame.atR]);have s2:∀(a:Act) (k:List Item) (w:World),step P (lone (b.atR a (.inScope c::k)) cs w)=.next (lone (b.atR a k) cs w):=fun a k w=>step_lone_go (by simp[stepG,stepG.exec,Frame.atR]);obtain⟨e,a₁,w₁,hq,harr⟩:=h b (.inScope c::k) cs hro hb hr;have st:StepsIn (Machine.fenced P F) P (lone (b.atR a (.code (.scope c)::k)) cs w) (lone (b.atR a (.code c :: .inScope c::k)) cs w):=.one (fenced_calm hb hr rfl) (s1 _ _ _)
 cases e with
 | normal=>exact⟨.normal,a₁,w₁,hq,StepsIn.trans st (StepsIn.trans harr (.one (fenced_calm hb hr rfl) (s2 _ _ _)))⟩
 | exit id=>exact⟨.exit id,a₁,w₁,hq,ArrivesIn.of_steps (e:=.exit id) st ⟨fun k' hk=>harr.1 k' (by simp[exitTo,hk]),fun hr hk=>harr.2 hr (by simp[exitTo,hk])⟩⟩
 | goto l=>exact hq.elim
 | ret=>exact⟨_,a₁,w₁,hq,.of_steps st harr⟩
 | panic ch=>exact⟨_,a₁,w₁,hq,.of_steps st harr⟩
 | outgrown=>exact⟨_,a₁,w₁,hq,.of_steps st harr⟩
def QSg[Pan](P:Program)(N:Nat)(dr:List Oper→Env→(Env→WP)→WP):Prop:=
 ∀(rn:Option Nat) (dl:List Deferred) (id:Nat) (ops:Array Oper) (Fr:Act→Prop) (ρ:Env) (KN:Env→WP) (a:Act) (w:World) (Q:Exit→Act→World→Prop),
  PanQ dl Fr Q→dr ops.toList ρ KN w.drew→Fits N dl ρ a→Leaves ops.toList Fr→Fr a→(∀ρ' a' w',Fits N dl ρ' a'→Fr a'→KN ρ' w'→Q .normal a' w')→(Code.region id ops true).wpIn (FF rn) 0 P Q a w
set_option maxHeartbeats 1000000 in
theorem QMI[Pan](hn:QI5 P){N:Nat}{dp:List Nat}{dr:List Oper→Env→(Env→WP)→WP}(hdr:QSg P N dr):∀(c:Code) {Fr:Act→Prop}{ρ:Env}{KN KR:Env→WP}{KX:List (Nat×(Env→WP))}{a:Act}{w:World}{Q:Exit→Act→World→Prop},PanQ dl Fr Q →
  wpC P N dp dr c ρ KN KX KR w→Fits N dl ρ a→LeavesC c Fr→Fr a→(∀ρ' a' w',Fits N dl ρ' a'→Fr a'→KN ρ' w'→Q .normal a' w') →
  (∀id ρ' a' w',Fits N dl ρ' a'→Fr a'→Qe0 id KX ρ' w'→Q (.exit id) a' w')→(∀ρ' a' w',Fits N dl ρ' a'→Fr a'→KR ρ' w'→Q .ret a' w')→c.wpIn (FF rn) 0 P Q a w:=by
 intro c
 induction c with
 | skip=>intro Fr ρ KN KR KX a w Q hp h hf _ hfr hN _ _;exact wpIn_skip (hN _ _ _ hf hfr h)
 | label l=>intro Fr ρ KN KR KX a w Q hp h hf _ hfr hN _ _;exact wpIn_label (hN _ _ _ hf hfr h)
 | exit id=>intro Fr ρ KN KR KX a w Q hp h hf _ hfr _ hX _;exact wpIn_exit (hX _ _ _ _ hf hfr h)
 | ret=>intro Fr ρ KN KR KX a w Q hp h hf _ hfr _ _ hR;exact wpIn_ret (hR _ _ _ hf hfr h)
 | region id ops draw=>
  intro Fr ρ KN KR KX a w Q hp h hf hl hfr hN _ _
  cases draw with
  | true=>exact hdr rn dl id ops Fr ρ KN a w Q hp h hf hl hfr hN
  | false=>
   refine wpIn_region ?_;have:=QQP (P:=P) (rn:=rn) (Q:=Q) (ops:=ops) ops.toList 0 (fun j=>.inl (by simp)) a w (QSk hn _ [] ops.toList hp h hf hl hfr hN);rw[List.range_eq_range'];simpa using this
 | seq x y ihx ihy=>
  intro Fr ρ KN KR KX a w Q hp h hf hl hfr hN hX hR;exact wpIn_seq (ihx (fun _ _ hd hf hq=>hp _ _ hd hf hq) h hf hl.1 hfr (fun ρ' a' w' hf' hfr' h'=>ihy hp h' hf' hl.2 hfr' hN hX hR) hX hR)
 | cond c x y ihx ihy=>
  intro Fr ρ KN KR KX a w Q hp h hf hl hfr hN hX hR;obtain⟨hc,h⟩:=QAI h;cases hv:ev ρ c <;> (try (rw[hv]at h;exact h.elim))
  rename_i b
  rw[hv]at h;have he:=hf.eval hc;rw[hv]at he;simp only at h
  cases hfl:(QKf x&&QKf y) with
  | false=>
   rw[hfl]at h;obtain⟨h1,h2⟩:=h;exact wpIn_cond_split he (fun e=>ihx (fun _ _ hd hf hq=>hp _ _ hd hf hq) (h1 e) hf hl.1 hfr hN hX hR) (fun e=>ihy (fun _ _ hd hf hq=>hp _ _ hd hf hq) (h2 e) hf hl.2 hfr hN hX hR)
  | true=>
   rw[hfl]at h;simp only[cond_true]at h;simp only[QPb,QY2]at h;simp only[QOA,QBY,QZQ]at h;obtain⟨h1,h2⟩:=h;have hkp:=hf.keep (wr ρ y (wr ρ x []));have hlx:LeavesC x fun a=>Fr a∧Keep N dl ρ (wr ρ y (wr ρ x [])) a:=hl.1.and (QGq x [] fun t ht=>QS6 y _ ht);have hly:LeavesC y fun a=>Fr a∧Keep N dl ρ (wr ρ y (wr ρ x [])) a:=hl.2.and (QGq y _ fun t ht=>ht)
   have key:∀ρ' a' w',Fits N dl ρ' a'→(Fr a'∧Keep N dl ρ (wr ρ y (wr ρ x [])) a') →
     (bif QGo ρ' (QE3 dp (wr ρ y (wr ρ x []))) then Cur.appV ((QE3 dp (wr ρ y (wr ρ x []))).map fun t=>QZx (gv ρ t)) (Cur.of ((QE3 dp (wr ρ y (wr ρ x []))).map fun t=>QZx (gv ρ t)) fun vs=>KN (QSS (QE3 dp (wr ρ y (wr ρ x []))) vs (QI2 (wr ρ y (wr ρ x [])) ρ))) ((QE3 dp (wr ρ y (wr ρ x []))).map (gv ρ')) else bad) w'→Q .normal a' w':=by
    intro ρ' a' w' hf' hfr' h';obtain⟨ha,h'⟩:=QAI h';obtain⟨t,ht,h'⟩:=Cur.appV_app _ _ _ _ h';rw[Cur.app_of,ht]at h';exact hN _ _ _ (hfr'.2.fits _ _ (QFM hf' ha)) hfr'.1 h'
   exact wpIn_cond_split he (fun e=>ihx (fun _ _ hd hf hq=>hp _ _ hd hf.1 hq) (h1 e) hf hlx ⟨hfr,hkp⟩ key (fun id ρ' a' w' hf' hfr' h'=>hX id ρ' a' w' hf' hfr'.1 h') (fun ρ' a' w' hf' hfr' h'=>hR ρ' a' w' hf' hfr'.1 h'))
    (fun e=>ihy (fun _ _ hd hf hq=>hp _ _ hd hf.1 hq) (h2 e) hf hly ⟨hfr,hkp⟩ key (fun id ρ' a' w' hf' hfr' h'=>hX id ρ' a' w' hf' hfr'.1 h') (fun ρ' a' w' hf' hfr' h'=>hR ρ' a' w' hf' hfr'.1 h'))
 | block id c ih=>
  intro Fr ρ KN KR KX a w Q hp h hf hl hfr hN hX hR;simp only[wpC,QPb,QY2]at h;simp only[QOA,QBY,QZQ]at h
  cases hb:Nat.blt 1 ((bif QKf c then 1 else 0)+QNH id c) with
  | false=>
   rw[hb]at h;refine wpIn_block (ih (fun _ _ hd hf hq=>hp _ _ hd hf hq) h hf hl hfr hN (fun i ρ' a' w' hf' hfr' h'=>?_) hR);simp only[Exit.inBlock];simp only[Qe0]at h'
   cases hi:Nat.beq id i with
   | true=>rw[hi]at h';rw[if_pos (Nat.eq_of_beq_eq_true hi).symm];exact hN _ _ _ hf' hfr' h'
   | false=>
    rw[hi]at h';rw[if_neg fun e=>by subst e;simp at hi];exact hX i ρ' a' w' hf' hfr' h'
  | true=>
   rw[hb]at h;simp only[cond_true]at h;have hlx:LeavesC c fun a=>Fr a∧Keep N dl ρ (wr ρ c []) a:=LeavesC.and hl (QGq c [] fun t ht=>ht)
   have key:∀ρ' a' w',Fits N dl ρ' a'→(Fr a'∧Keep N dl ρ (wr ρ c []) a') →
     (bif QGo ρ' (QE3 dp (wr ρ c [])) then Cur.appV ((QE3 dp (wr ρ c [])).map fun t=>QZx (gv ρ t)) (Cur.of ((QE3 dp (wr ρ c [])).map fun t=>QZx (gv ρ t)) fun vs=>KN (QSS (QE3 dp (wr ρ c [])) vs (QI2 (wr ρ c []) ρ))) ((QE3 dp (wr ρ c [])).map (gv ρ')) else bad) w'→Q .normal a' w':=by
    intro ρ' a' w' hf' hfr' h';obtain⟨ha,h'⟩:=QAI h';obtain⟨t,ht,h'⟩:=Cur.appV_app _ _ _ _ h';rw[Cur.app_of,ht]at h';exact hN _ _ _ (hfr'.2.fits _ _ (QFM hf' ha)) hfr'.1 h'
   refine wpIn_block (ih (fun _ _ hd hf hq=>hp _ _ hd hf.1 hq) h hf hlx ⟨hfr,hf.keep _⟩ key (fun i ρ' a' w' hf' hfr' h'=>?_) (fun ρ' a' w' hf' hfr' h'=>hR ρ' a' w' hf' hfr'.1 h'));simp only[Exit.inBlock];simp only[Qe0]at h'
   cases hi:Nat.beq id i with
   | true=>rw[hi]at h';rw[if_pos (Nat.eq_of_beq_eq_true hi).symm];exact key _ _ _ hf' hfr' h'
   | false=>
    rw[hi]at h';rw[if_neg fun e=>by subst e;simp at hi];exact hX i ρ' a' w' hf' hfr'.1 h'
 | loop c ih=>
  intro Fr ρ KN KR KX a w Q hp h hf hl hfr _ hX hR;simp only[wpC,QPb,QY2]at h;simp only[QOA,QBY,QZQ]at h;obtain⟨hc0,h⟩:=QAI h;obtain⟨t0,ht0,h⟩:=Cur.appV_app _ _ _ _ h;unfold QGp at h;rw[Cur.app_ofT]at h;obtain⟨n,h⟩:=h;refine wpIn_loop_rounds n ?_;have hlx:LeavesC c fun a=>Fr a∧Keep N dl ρ (wr ρ c []) a:=LeavesC.and hl (QGq c [] fun t ht=>ht)
  have key:∀(n:Nat) (t:Tup ((QE3 dp (wr ρ c [])).map fun t=>QZx (gv ρ t))) (a:Act) (w:World),Fits N dl (QSS (QE3 dp (wr ρ c [])) (Tup.vals _ t) (QI2 (wr ρ c []) ρ)) a→Fr a→Keep N dl ρ (wr ρ c []) a →
    Cur.app _ (QHB ((QE3 dp (wr ρ c [])).map fun t=>QZx (gv ρ t)) (fun K=>Cur.of _ fun vs=>wpC P N dp dr c (QSS (QE3 dp (wr ρ c [])) vs (QI2 (wr ρ c []) ρ)) (fun ρ'=>bif QGo ρ' (QE3 dp (wr ρ c [])) then Cur.appV _ K ((QE3 dp (wr ρ c [])).map (gv ρ')) else bad) KX KR) n) t w →
    Code.roundsIn (FF rn) 0 P c Q n a w:=by
   intro n
   induction n with
   | zero=>intro t a w _ _ _ h;simp only[QHB,Cur.app_ofT]at h
   | succ n ihn=>
    intro t a w hf hfr hkp h;simp only[QHB,Cur.app_of]at h;rw[roundsIn_succ];refine ih (fun _ _ hd hf hq=>hp _ _ hd hf.1 hq) h hf hlx ⟨hfr,hkp⟩ (fun ρ' a' w' hf' hfr' h'=>?_) (fun id ρ' a' w' hf' hfr' h'=>hX id ρ' a' w' hf' hfr'.1 h') (fun ρ' a' w' hf' hfr' h'=>hR ρ' a' w' hf' hfr'.1 h');obtain⟨ha,h'⟩:=QAI h';obtain⟨t',ht',h'⟩:=Cur.appV_app _ _ _ _ h';refine ihn t' a' w' ?_ hfr'.1 hfr'.2 h';rw[ht'];exact hfr'.2.fits _ _ (QFM hf' ha)
  refine key n t0 a w ?_ hfr (hf.keep _) h;rw[ht0];exact (hf.keep _).fits _ _ (QFM hf hc0)
 | scope c ih=>
  intro Fr ρ KN KR KX a w Q hp h hf hl hfr hN hX hR;exact QIL (ih (fun _ _ hd hf hq=>hp _ _ hd hf hq) h hf hl hfr hN hX hR)
 | _=>intro Fr ρ KN KR KX a w Q hp h;exact h.elim
inductive Flat (P:Program):List TypeId→List Value→List Value→Prop
 | nil:Flat P [] [] []
 | cons {t:TypeId}{ts:List TypeId}{v:Value}{vs c cs:List Value}:Qbc P t v=some c→Flat P ts vs cs→Flat P (t::ts) (v::vs) (c++cs)
theorem QbI{ty:TypeId}{vs:List Value}(h:QBj P ty=true)(hl:vs.length=(QBX P 20 ty).length):Qbc P ty (.agg vs.toArray)=some vs:=by
 simp[Qbc,h,hl]
def QNL(tmps:Array Value):ResultVar→Sem Value
 | .tmp t=>pure (tmps.getD t undef)
 | .cell a t=>do loadVar t (← asAddr (tmps.getD a undef))
theorem QR5{N:Nat}{a:Act}{ρ:Env}(hf:Fits N dl ρ a):∀(rs:List ResultVar) (ts:List TypeId) (acc:List Value) (K:List Value→WP) (w:World),rs.length=ts.length →
  QHr P (rs.zip ts) ρ acc K w→∃vs cs,(rs.mapM (QNL a.tmps)).run P w=.ok vs w∧Flat P ts vs cs∧K (acc++cs) w:=by
 intro rs
 induction rs with
 | nil=>
  intro ts acc K w hl h
  cases ts with
  | cons=>cases hl
  | nil=>exact⟨[],[],rfl,.nil,by simpa [QHr]using h⟩
 | cons r rs ih=>
  intro ts acc K w hl h
  cases ts with
  | nil=>cases hl
  | cons ty ts=>
  have hl':rs.length=ts.length:=by simpa using hl
  have fin:∀v c,(QNL a.tmps r).run P w=.ok v w→Qbc P ty v=some c→QHr P (rs.zip ts) ρ (acc++c) K w →
    ∃vs cs,((r::rs).mapM (QNL a.tmps)).run P w=.ok vs w∧Flat P (ty::ts) vs cs∧K (acc++cs) w:=by
   intro v c hr hv h';obtain⟨vs,cs,hm,hfl,hk⟩:=ih ts (acc++c) K w hl' h';refine⟨v::vs,c++cs,?_,.cons hv hfl,by rw[←List.append_assoc];exact hk⟩;simp only[List.mapM_cons,Sem.run_bind,hr,Result.andThen_ok,hm,Sem.run_pure]
  cases r with
  | tmp t=>
   simp only[List.zip_cons_cons,QHr]at h;obtain⟨hh,h⟩:=QAI h
   cases hv:Qbc P ty (gv ρ t) with
   | none=>rw[hv]at h;exact h.elim
   | some c=>
    rw[hv]at h;refine fin _ c ?_ hv h;have:=hf.get t hh;simp[QNL,Array.getD_eq_getD_getElem?,this]
  | cell t u=>
   simp only[List.zip_cons_cons,QHr]at h;obtain⟨hh,h⟩:=QAI h;simp only[Bool.and_eq_true]at hh;obtain⟨hh,hu⟩:=hh;obtain rfl:=Nat.eq_of_beq_eq_true hu;have hg:=hf.get t hh;cases hv:gv ρ t <;> (try (rw[hv]at h;exact h.elim))
   rename_i q
   cases q with
   | none=>rw[hv]at h;exact h.elim
   | some ad=>
   rw[hv]at h hg;simp only at h
   have hga:a.tmps.getD t undef=.pointer (some ad):=by simp[Array.getD_eq_getD_getElem?,hg]
   cases hagg:QBj P u with
   | true=>
    rw[hagg]at h;simp only[cond_true]at h;obtain⟨d,hd⟩:=QCk hagg
    cases hsz:QHj P u with
    | none=>rw[hsz]at h;exact h.elim
    | some n=>
     rw[hsz]at h;obtain⟨hb,h⟩:=QAI h;have hb:=Nat.eq_of_beq_eq_true hb;obtain⟨vs,hvs,h,hlen⟩:=QKU (P:=P) _ _ _ _ _ h;refine fin (.agg vs.toArray) vs ?_ (QbI hagg (by simpa using hlen)) h;simp only[QNL,hga,asAddr,Sem.run_bind,Sem.run_pure,Result.andThen_ok,loadVar,QB4 hd,hagg,if_true,QD0 hsz,loadCells];rw[hb];simp only[List.reverse_nil]at hvs;rw[hvs];rfl
   | false=>
    rw[hagg]at h;simp only[cond_false]at h
    cases hsh:QBX P 20 u with
    | nil=>rw[hsh]at h;exact h.elim
    | cons s r=>
     cases r with
     | cons _ _=>rw[hsh]at h;exact h.elim
     | nil=>
      rw[hsh]at h;obtain⟨d,hd⟩:=QEq hsh;simp only[QBW]at h;obtain⟨y,hy,h⟩:=h;refine fin (s.mk y) [s.mk y] ?_ (by simp[Qbc,hagg]) h;simp only[QNL,hga,asAddr,Sem.run_bind,Sem.run_pure,Result.andThen_ok,loadVar,QB4 hd,hagg,Bool.false_eq_true,if_false,run_load,hy]
theorem Flat.length{ts:List TypeId}{vs cs:List Value}(h:Flat P ts vs cs):vs.length=ts.length:=by
 induction h with
 | nil=>rfl
 | cons _ _ ih=>simp[ih]
theorem QWV{ts:List TypeId}{vs cs:List Value}(h:Flat P ts vs cs):QW4 (ts.map fun u=>bif QBj P u then some (QBX P 20 u).length else none) cs=vs:=by
 induction h with
 | nil=>rfl
 | @cons t ts v vs c cs hv _ ih=>
  unfold Qbc at hv
  cases hagg:QBj P t with
  | true=>
   rw[hagg]at hv;simp only[cond_true]at hv;split at hv
   ·rename_i cs'
    cases hb:Nat.beq cs'.toList.length (QBX P 20 t).length with
    | false=>rw[hb]at hv;cases hv
    | true=>
     rw[hb]at hv;simp only[cond_true,Option.some.injEq]at hv;subst hv;have hb:=Nat.eq_of_beq_eq_true hb;simp only[List.map_cons,hagg,cond_true,QW4];rw[←hb,List.take_left,List.drop_left,ih]
   ·cases hv
  | false=>
   rw[hagg]at hv;simp only[cond_false,Option.some.injEq]at hv;subst hv;simp only[List.map_cons,hagg,cond_false,List.singleton_append,QW4,ih]
theorem QfL{ts:List TypeId}{vs cs:List Value}(h:Flat P ts vs cs):(QAc P ts).1.mk cs=if h:vs.toArray.size=1 then vs.toArray[0] else .tuple vs.toArray:=by
 have hl:=h.length
 match ts,h with
 | [],h=>
  cases h;rfl
 | [t],h=>
  cases h with
  | @cons _ _ v vs c cs hv h'=>
   cases h';simp only[List.append_nil,QAc];unfold Qbc at hv
   cases hagg:QBj P t with
   | true=>
    rw[hagg]at hv;simp only[cond_true]at hv⊢;split at hv
    ·rename_i cs'
     cases hb:Nat.beq cs'.toList.length (QBX P 20 t).length with
     | false=>rw[hb]at hv;cases hv
     | true=>
      rw[hb]at hv;simp only[cond_true,Option.some.injEq]at hv;subst hv;simp[Rs.mk]
    ·cases hv
   | false=>
    rw[hagg]at hv;simp only[cond_false,Option.some.injEq]at hv⊢;subst hv;simp[Rs.mk]
 | t::t'::ts,h=>
  have:=QWV h;rw[dif_neg (by simp at hl⊢;omega)];simp only[QAc,Rs.mk];rw[this]
theorem QQD:∀(vs:List Value) (i t:Nat),has (QLA vs i) t=true→∃j,t=i+j∧vs[j]? = some (gv (QLA vs i) t):=by
 intro vs
 induction vs with
 | nil=>intro i t h;cases h
 | cons v vs ih=>
  intro i t h;simp only[QLA,QCv]at h;simp only[QLA,QCy]
  cases hb:Nat.beq i t with
  | true=>exact⟨0,by have:=Nat.eq_of_beq_eq_true hb;omega,rfl⟩
  | false=>
   rw[hb]at h;obtain⟨j,hj,hv⟩:=ih (i+1) t h;exact⟨j+1,by omega,by simpa using hv⟩
theorem QKX[Pan](hn:QI5 P){dp:List Nat}{dr:Nat→List Oper→Env→(Env→WP)→WP}(hdr:∀N,QSg P N (dr N)){f:FuncId}{fn:Func}(hf:P.funcs[f]? = some fn){args:List Value}{w:World}
  {R:Cur (QAc P fn.resultTypes.toList).2}(h:wpF P dp dr fn args _ R w) {S:Ending→World→Prop}
  (hS:∀t w',Cur.app _ R t w'→S (.returned ((QAc P fn.resultTypes.toList).1.mk (Tup.vals _ t))) w') (hSp:∀w',Pan.q w'→S (.panicked Pan.ch) w'):Calls P f args.toArray w S:=by
 unfold wpF at h
 cases hb:fn.body with
 | none=>rw[hb]at h;exact h.elim
 | some c=>
 rw[hb]at h;simp only at h;obtain⟨hc,h⟩:=QAI h;simp only[Bool.and_eq_true]at hc;have hl:=Nat.eq_of_beq_eq_true hc.1;have hle:=Nat.le_of_ble_eq_true hc.2;refine (QJt (rn:=none) (n:=0)).1 (callsIn_of_wp hf hb trivial ?_)
 have fits:Fits fn.ntmps [] (QLA args 0) { tmps:=args.toArray++Array.replicate (fn.ntmps - args.toArray.size) undef,defers:=[] }:=by
  refine⟨by simp;omega,rfl,fun t ht=>?_⟩;obtain⟨j,hj,hv⟩:=QQD args 0 t ht
  have hj':t=j:=by omega
  subst hj';have hlt:t<args.length:=(List.getElem?_eq_some_iff.1 hv).1;rw[Array.getElem?_append_left (by simpa using hlt)];simpa using hv
 have ret:∀ρ (a:Act) w',Fits fn.ntmps [] ρ a→True→QHr P (fn.results.toList.zip fn.resultTypes.toList) ρ [] (fun vs=>Cur.appV _ R vs) w' →
   a.defers=[]∧∃v,(results fn a.tmps).run P w'=.ok v w'∧S (.returned v) w':=by
  intro ρ a w' hf' _ h';obtain⟨vs,cs,hm,hfl,hk⟩:=QR5 hf' _ _ _ _ _ hl h';obtain⟨t,ht,hk⟩:=Cur.appV_app _ _ _ _ hk;refine⟨hf'.defs,_,?_,hS t w' hk⟩;simp only[List.nil_append]at ht;rw[ht,QfL hfl]
  have gen:∀g:ResultVar→Sem Value,(∀r,g r=QNL a.tmps r) →
    (do let vs ← fn.results.mapM g;pure (if h:vs.size=1 then vs[0] else .tuple vs):Sem Value).run P w'=.ok (if h:vs.toArray.size=1 then vs.toArray[0] else .tuple vs.toArray) w':=by
   intro g hg;obtain rfl:g=QNL a.tmps:=funext hg;rw[Array.mapM_eq_mapM_toList];simp only[Sem.run_bind,Sem.run_map,hm,Result.andThen_ok,Sem.run_pure]
  exact gen _ fun r=>by cases r<;>rfl
 refine QMI hn (hdr fn.ntmps) c (Fr:=fun _=>True) (fun a w hd _ hq=>⟨hd,hSp w hq⟩) h fits ?_ trivial ?_ ?_ ?_
 ·have:∀c:Code,LeavesC c fun _=>True:=by
   intro c
   induction c with
   | region _ ops _=>exact fun _ _ _ _ _=>trivial
   | seq a b iha ihb=>exact⟨iha,ihb⟩
   | cond _ a b iha ihb=>exact⟨iha,ihb⟩
   | block _ b ih=>exact ih
   | loop b ih=>exact ih
   | _=>trivial
  exact this c
 ·exact ret
 ·intro id ρ' a' w' _ _ h';exact h'.elim
 ·exact ret
end
end Go.Cf
namespace Go.Cf
open Go
def QT2:Value→Bool
 | .tuple cs=>Nat.beq cs.toList.length 0
 | _=>false
def QO5(ops:List Oper)(dec:List Nat)(ρ:Env)(g:Option (Nat×Bool)):Option Bool:=
 match QTQ ops dec ρ g with
 | some r=>some r
 | none=>match g with
  | none=>none
  | some (j,_)=>match QFj ops j with
   | some d=>bif has ρ d&&QT2 (gv ρ d) then some false else none
   | none=>none
def QKv(a:Addr)(v:Value)(K:WP):WP:=fun w=>w.cell? a=some v∧K w
def QA9(o:Oper):List Nat:=(o.after.toList.filter fun e=>Region.binds .any e).map (·.on)
def QL3:List Nat→List Nat→List Nat
 | [],s=>s
 | x::r,s=>QL3 r (Qem x s)
def QBN:List (List Nat)→Nat→List Nat
 | [],_=>[]
 | x::_,0=>x
 | _::r,i+1=>QBN r i
def QJw(acc:List (List Nat)):List Nat→List Nat
 | []=>[]
 | m::ms=>QL3 (m::QBN acc m) (QJw acc ms)
def QCN:List Oper→List (List Nat)→List (List Nat)
 | [],acc=>acc
 | o::os,acc=>QCN os (acc++[QJw acc (QA9 o)])
inductive St where
 | done
 | nul (i:Nat) (t:St)
 | eff (i:Nat) (cs:List Nat) (t:St)
 | alt (a b:St)
def QIK:St→List Nat
 | .eff i _ _=>[i]
 | .alt a b=>QIK a++QIK b
 | _=>[]
def QO4(P:Program)(ops:List Oper)(i:Nat):Bool:=
 match ops[i]? with
 | some o=>QDm P o
 | none=>false
def QKq(ops:List Oper)(i:Nat):Bool:=
 match ops[i]? with
 | some o=>QEg o
 | none=>false
def QcH(P:Program)(ops:List Oper)(l:List Nat):List Nat:=l.filter fun m=>!(QO4 P ops m)
def QT9:List Nat→St→St
 | [],t=>t
 | i::r,t=>.nul i (QT9 r t)
def Qd3:List St→St
 | []=>.done
 | t::ts=>match ts with
  | []=>t
  | _=>.alt t (Qd3 ts)
def QYi(ops:List Oper)(i:Nat):Bool:=
 match ops[i]? with
 | some o=>QJP o
 | none=>false
def QSp(P:Program)(ops:List Oper)(befs:List (List Nat)):Nat→List Nat→List Nat→List Nat→St
 | 0,_,_,_=>.done
 | f+1,rem,did,placed=>
  let ns:=(List.range ops.length).filter fun i=>QO4 P ops i && !(QBy i placed)&&(QcH P ops (QBN befs i)).all fun m=>QBy m did
  let placed':=ns++placed
  let ready:=rem.filter fun e=>(QcH P ops (QBN befs e)).all fun m=>QBy m did
  QT9 ns (Qd3 ((bif Nat.ble ready.length 5 then ready else ready.take 1).map fun e=>
   .eff e (bif QYi ops e then [] else placed'.reverse.filter fun r=>QKq ops r && !(QBy r (QBN befs e))) (QSp P ops befs f (rem.filter fun m=>!(Nat.beq m e)) (e::did) placed')))
def QCQ:List Oper→Nat→Nat→Option Nat
 | [],_,_=>none
 | o::os,i,t=>match o.dst with
  | some d=>bif Nat.beq d t then some i else QCQ os (i+1) t
  | none=>QCQ os (i+1) t
def QUP(ops:List Oper)(befs:List (List Nat))(i:Nat):Operand→Bool
 | .tmp t=>(match QCQ ops 0 t with
  | some u=>!(Nat.beq u i)&&(QBy u (QBN befs i)||QBy i (QBN befs u))
  | none=>true)
 | _=>true
def QYg(ops:List Oper)(befs:List (List Nat))(i:Nat):Operand→Bool
 | .tmp t=>(match QCQ ops 0 t with
  | some u=>QBy u (QBN befs i)
  | none=>true)
 | _=>true
def QES:List Nat→Bool
 | []=>true
 | t::r=>!(QBy t r)&&QES r
def QOM:List Oper→List Nat
 | []=>[]
 | o::os=>match o.dst with
  | some t=>t::QOM os
  | none=>QOM os
def Qbz(N:Nat)(ops:List Oper)(befs:List (List Nat)):List Oper→Nat→Bool
 | [],_=>true
 | o::os,i=>o.op.operands.toList.all (QUP ops befs i)&&(match o.dst with|some d=>Nat.blt d N|none=>true) &&
   (match o.op with|.select .. => false|_=>true) &&
   (match o.guard with|some (g,_)=>QBy g (QA9 o)&&(match QFj ops g with|some _=>true|none=>false)|none=>true)&&Qbz N ops befs os (i+1)
def Qb4(o:Oper):Operand:=
 match o.op with
 | .load _ x=>x
 | _=>.const undef
def Qdl:List Nat→Bool
 | []=>true
 | _=>false
def QFU(P:Program)(ops:List Oper)(befs:List (List Nat)):St→List Nat→List Nat→Bool
 | .done,X,H=>Qdl H&&(List.range ops.length).all fun i=>QBy i X
 | .nul i S,X,H=>Qdl H&&(match ops[i]? with
  | some o=>!(QBy i X)&&QDm P o&&(QA9 o).all (fun m=>QBy m X)&&QFU P ops befs S (i::X) []
  | none=>false)
 | .eff i cs S,X,H=>(match ops[i]? with
  | some o=>!(QBy i X)&&(QA9 o).all (fun m=>QBy m X) &&
    (List.range ops.length).all (fun k=>QBy k X||QBy k (i::H)||(match ops[k]? with|some ok=>(QA9 ok).any fun m=>!(QBy m X)|none=>true)) &&
    X.all (fun r=>!(QKq ops r)||QBy r (QBN befs i)||QBy r cs||QJP o) &&
    cs.all (fun r=>QBy r X&&(match ops[r]? with|some or=>QEg or&&QYg ops befs r (Qb4 or)|none=>false)) &&
    QFU P ops befs S (i::X) []
  | none=>false)
 | .alt a b,X,H=>!(Qdl (QIK a)) && !(Qdl (QIK b))&&QFU P ops befs a X (QIK b++H)&&QFU P ops befs b X (QIK a++H)
def Qdd(P:Program)(N:Nat)(ops:List Oper)(befs:List (List Nat))(S:St):Bool:=
 QES (QOM ops)&&Qbz N ops befs ops 0&&QFU P ops befs S [] []
def QPL:List Value→Addr→Nat→WP→WP
 | [],_,_,K=>K
 | v::vs,a,i,K=>QKv (a.add i) v (QPL vs a (i+1) K)
def QTE(P:Program)(t:TypeId)(ad:Addr)(v:Value)(K:WP):WP:=
 bif QBj P t then (match v with
  | .agg cs=>(match QHj P t with|some n=>bif Nat.beq n cs.toList.length then QPL cs.toList ad 0 K else bad|none=>bad)
  | _=>bad)
 else (match P.underlying t with|some _=>QKv ad v K|none=>bad)
def QNX(P:Program)(ops:List Oper)(dec:List Nat)(ρ:Env)(K:WP):List Nat→WP
 | []=>K
 | r::cs=>match ops[r]? with
  | some o=>(match QO5 ops dec ρ o.guard with
   | some true=>(match o.op with
    | .load t x=>(match o.dst,ev ρ x with
     | some d,.pointer (some ad)=>bif QNJ ρ x&&has ρ d then QTE P t ad (gv ρ d) (QNX P ops dec ρ K cs) else bad
     | _,_=>bad)
    | _=>bad)
   | some false=>QNX P ops dec ρ K cs
   | none=>bad)
  | none=>bad
def QPY[Pan](P:Program)(N:Nat)(ops:List Oper)(o:Oper)(dec:List Nat)(ρ:Env)(kR kS:List Nat→Env→WP):WP:=
 match QO5 ops dec ρ o.guard with
 | some true=>bif QSO N ρ o then QBJ P o ρ (kR dec) else bad
 | some false=>kS dec (put ρ o.dst undef)
 | none=>match o.guard with
  | none=>bad
  | some (j,b)=>match QFj ops j with
   | none=>bad
   | some d=>match has ρ d,gv ρ d with
    | true,.bool x=>
     let run (ρ:Env):WP:=bif QSO N ρ o then QBJ P o ρ (kR (j::dec)) else bad
     let skip (ρ:Env):WP:=kS (j::dec) (put ρ o.dst undef)
     XIf x (bif b then run ((d,.bool true)::ρ) else skip ((d,.bool true)::ρ)) (bif b then skip ((d,.bool false)::ρ) else run ((d,.bool false)::ρ))
    | _,_=>bad
def Qat(A B:WP):WP:=fun w=>A w∧B w
def QBh[Pan](P:Program)(N:Nat)(ops:List Oper):St→List Nat→Env→(Env→WP)→WP
 | .done,_,ρ,K=>K ρ
 | .nul i S,dec,ρ,K=>(match ops[i]? with
  | some o=>QPY P N ops o dec ρ (fun dec' ρ'=>QBh P N ops S dec' ρ' K) (fun dec' ρ'=>QBh P N ops S dec' ρ' K)
  | none=>bad)
 | .eff i cs S,dec,ρ,K=>(match ops[i]? with
  | some o=>QPY P N ops o dec ρ (fun dec' ρ'=>QNX P ops dec' ρ' (QBh P N ops S dec' ρ' K) cs) (fun dec' ρ'=>QBh P N ops S dec' ρ' K)
  | none=>bad)
 | .alt a b,dec,ρ,K=>Qat (QBh P N ops a dec ρ K) (QBh P N ops b dec ρ K)
def QX5:St→Bool
 | .alt _ _=>true
 | .nul _ t=>QX5 t
 | .eff _ _ t=>QX5 t
 | .done=>false
def Qfn(t:Nat):Operand→Nat
 | .tmp u=>bif Nat.beq u t then 1 else 0
 | _=>0
def Qgh(t:Nat):List Operand→Nat
 | []=>0
 | x::r=>Qfn t x+Qgh t r
def Qfe(t:Nat):List Oper→Nat
 | []=>0
 | o::r=>Qgh t o.op.operands.toList+Qfe t r
def QZ0(t:Nat):Code→Nat
 | .region _ ops _=>Qfe t ops.toList
 | .seq a b=>QZ0 t a+QZ0 t b
 | .cond c a b=>Qfn t c+(QZ0 t a+QZ0 t b)
 | .block _ b=>QZ0 t b
 | .scope b=>QZ0 t b
 | .loop b=>QZ0 t b
 | .rangeFunc f _ a b=>Qfn t f+(QZ0 t a+QZ0 t b)
 | _=>0
def Qfw(t:Nat):List ResultVar→Nat
 | []=>0
 | .tmp u::r=>(bif Nat.beq u t then 1 else 0)+Qfw t r
 | .cell u _::r=>(bif Nat.beq u t then 1 else 0)+Qfw t r
def QXz(fn:Func)(ops:List Oper):List Nat:=
 match fn.body with
 | some c=>(QOM ops).filter fun t=>Nat.blt (Qfe t ops) (QZ0 t c+Qfw t fn.results.toList)
 | none=>[]
def Qf8(P:Program)(ops:List Oper)(ρ:Env)(t:Nat):Sh:=
 bif has ρ t then QZx (gv ρ t) else (match QCQ ops 0 t with
  | some i=>(match ops[i]? with|some o=>QVQ P o.type|none=>.val)
  | none=>.val)
def Qb9(ops:List Oper)(S:St):Bool:=ops.any (fun o=>o.guard.isSome)||(QX5 S && !(ops.any fun o=>match o.op with|.alloc _=>true|_=>false))
def fSt:St→(St→WP)→WP
 | .done,f=>f .done
 | .nul i S,f=>fSt S fun S=>f (.nul i S)
 | .eff i cs S,f=>fNs cs fun cs=>fSt S fun S=>f (.eff i cs S)
 | .alt a b,f=>fSt a fun a=>fSt b fun b=>f (.alt a b)
theorem QQH:∀(S:St) (f:St→WP),fSt S f=f S
 | .done,_=>rfl
 | .nul i S,f=>by rw[fSt,QQH S]
 | .eff i cs S,f=>by rw[fSt,QOA,QQH S]
 | .alt a b,f=>by rw[fSt,QQH a,QQH b]
def QPX[Pan](P:Program)(fn:Func)(N:Nat)(ops:List Oper)(ρ:Env)(KN:Env→WP):WP:=
 let befs:=QCN ops []
 fSt (QSp P ops befs (ops.length+1) ((List.range ops.length).filter fun i=>!(QO4 P ops i)) [] []) fun S=>
 bif Qdd P N ops befs S then
  bif Qb9 ops S then
   (fNs (QL3 (QXz fn ops) (QHf (ops.filter fun o=>match o.dst with|some t=>has ρ t|none=>false) [])) fun cs=>
    fSs (cs.map (Qf8 P ops ρ)) fun ss=>
    QBc ss (fun K=>QBh P N ops S [] ρ fun ρ'=>bif QGo ρ' cs then Cur.appV ss K (cs.map (gv ρ')) else bad) (Cur.of ss fun vs=>fE (QSS cs vs ρ) KN))
  else QBh P N ops S [] ρ KN
 else bad
theorem QL7{t:Nat}:∀(l s:List Nat),QBy t (QL3 l s)=true↔QBy t l=true∨QBy t s=true:=by
 intro l
 induction l with
 | nil=>intro s;simp[QL3,QBy]
 | cons x r ih=>
  intro s;simp only[QL3,ih,QRJ];simp only[QBa,List.mem_cons];constructor
  ·rintro (h|h|h)
   ·exact .inl (.inr h)
   ·exact .inl (.inl h)
   ·exact .inr h
  ·rintro ((h|h)|h)
   ·exact .inr (.inl h)
   ·exact .inl h
   ·exact .inr (.inr h)
theorem QTN{acc:List (List Nat)}{r:Nat}:∀(ms:List Nat),QBy r (QJw acc ms)=true→∃m∈ms,r=m∨QBy r (QBN acc m)=true:=by
 intro ms
 induction ms with
 | nil=>intro h;simp[QJw,QBy]at h
 | cons m ms ih=>
  intro h;simp only[QJw,QL7]at h;rcases h with h|h
  ·rw[QBa,List.mem_cons]at h;rcases h with h|h
   ·exact⟨m,List.mem_cons_self ..,.inl h⟩
   ·exact⟨m,List.mem_cons_self ..,.inr (QBa.2 h)⟩
  ·obtain⟨m',hm,h⟩:=ih h;exact⟨m',List.mem_cons_of_mem _ hm,h⟩
theorem QZo:∀(l:List (List Nat)) (i:Nat),l.length≤i→QBN l i=[]:=by
 intro l
 induction l with
 | nil=>intro i _;rfl
 | cons x r ih=>
  intro i h
  cases i with
  | zero=>simp at h
  | succ i=>exact ih i (by simpa using h)
theorem QKe:∀(l l':List (List Nat)) (i:Nat),i<l.length→QBN (l++l') i=QBN l i:=by
 intro l
 induction l with
 | nil=>intro l' i h;simp at h
 | cons x r ih=>
  intro l' i h
  cases i with
  | zero=>rfl
  | succ i=>exact ih l' i (by simpa using h)
theorem QM9:∀(l:List (List Nat)) (x:List Nat),QBN (l++[x]) l.length=x:=by
 intro l
 induction l with
 | nil=>intro x;rfl
 | cons y r ih=>intro x;exact ih x
section
variable {ops:List Oper}
theorem QHN{D:Nat→Prop}(hcl:∀i o,D i→ops[i]? = some o→∀m∈QA9 o,D m) :
  ∀i o,ops[i]? = some o→(∀m∈QA9 o,D m)→∀r,QBy r (QBN (QCN ops []) i)=true→D r:=by
 have key:∀(l:List Oper) (acc:List (List Nat)),l=ops.drop acc.length→acc.length≤ops.length →
   (∀i o,ops[i]? = some o→(∀m∈QA9 o,D m)→∀r,QBy r (QBN acc i)=true→D r) →
   ∀i o,ops[i]? = some o→(∀m∈QA9 o,D m)→∀r,QBy r (QBN (QCN l acc) i)=true→D r:=by
  intro l
  induction l with
  | nil=>intro acc _ _ h;exact h
  | cons o os ih=>
   intro acc hl hle h
   have hlt:acc.length<ops.length:=by
    rcases Nat.lt_or_ge acc.length ops.length with h'|h'
    ·exact h'
    ·rw[List.drop_eq_nil_of_le h']at hl;cases hl
   have ho:ops[acc.length]? = some o:=by
    have:=congrArg (fun l=>l[0]?) hl;simpa using this.symm
   refine ih (acc++[QJw acc (QA9 o)]) ?_ (by simp;omega) ?_
   ·have:=congrArg List.tail hl;simpa using this
   ·intro i oi hi hd r hr;rcases Nat.lt_trichotomy i acc.length with hlt'|heq|hgt
    ·rw[QKe _ _ _ hlt']at hr;exact h i oi hi hd r hr
    ·subst heq;rw[ho]at hi;cases hi;rw[QM9]at hr;obtain⟨m,hm,hr⟩:=QTN _ hr;rcases hr with rfl|hr
     ·exact hd _ hm
     ·cases hom:ops[m]? with
      | none=>
       have:acc.length≤m:=by
        have:=List.getElem?_eq_none_iff.1 hom;omega
       rw[QZo _ _ this]at hr;simp[QBy]at hr
      | some om=>exact h m om hom (hcl m om (hd m hm) hom) r hr
    ·rw[QZo _ _ (by simp;omega)]at hr;simp[QBy]at hr
 exact key ops [] (by simp) (by simp) (fun i o _ _ r hr=>by simp[QBN,QBy]at hr)
theorem QaF{t:Nat}:∀{l:List Oper}{i:Nat}{o:Oper},l[i]? = some o→o.dst=some t→QBy t (QOM l)=true:=by
 intro l
 induction l with
 | nil=>intro i o h;simp at h
 | cons x r ih=>
  intro i o h hd
  cases i with
  | zero=>
   simp only[List.getElem?_cons_zero,Option.some.injEq]at h;subst h;simp[QOM,hd,QBy]
  | succ i=>
   have:=ih (i:=i) (by simpa using h) hd;unfold QOM
   cases hx:x.dst with
   | none=>exact this
   | some u=>simp only[QBy,this];cases Nat.beq u t<;>rfl
theorem QID{t:Nat}:∀{l:List Oper},QES (QOM l)=true→∀{i j:Nat}{oi oj:Oper},l[i]? = some oi→l[j]? = some oj→oi.dst=some t→oj.dst=some t→i=j:=by
 intro l
 induction l with
 | nil=>intro _ i j oi oj h;simp at h
 | cons x r ih=>
  intro hn i j oi oj hi hj di dj
  have hr:QES (QOM r)=true:=by
   unfold QOM at hn
   cases hx:x.dst with
   | none=>rw[hx]at hn;exact hn
   | some u=>rw[hx]at hn;simp only[QES,Bool.and_eq_true]at hn;exact hn.2
  have hx0:∀(k:Nat) (o:Oper),r[k]? = some o→o.dst=some t→x.dst≠some t:=by
   intro k o hk hd hx;unfold QOM at hn;rw[hx]at hn;simp only[QES,Bool.and_eq_true,Bool.not_eq_true']at hn;rw[QaF hk hd]at hn;simp at hn
  cases i with
  | zero=>
   cases j with
   | zero=>rfl
   | succ j=>
    simp only[List.getElem?_cons_zero,Option.some.injEq]at hi;subst hi;exact absurd di (hx0 j oj (by simpa using hj) dj)
  | succ i=>
   cases j with
   | zero=>
    simp only[List.getElem?_cons_zero,Option.some.injEq]at hj;subst hj;exact absurd dj (hx0 i oi (by simpa using hi) di)
   | succ j=>
    have:=ih hr (i:=i) (j:=j) (by simpa using hi) (by simpa using hj) di dj;rw[this]
theorem QPS{t:Nat}:∀{l:List Oper}{k u:Nat},QCQ l k t=some u→∃(v:Nat) (o:Oper),u=k+v∧l[v]? = some o∧o.dst=some t:=by
 intro l
 induction l with
 | nil=>intro k u h;cases h
 | cons x r ih=>
  intro k u h
  have step:QCQ r (k+1) t=some u→∃(v:Nat) (o:Oper),u=k+v∧(x::r)[v]? = some o∧o.dst=some t:=by
   intro h;obtain⟨v,o,rfl,ho,hd⟩:=ih h;exact⟨v+1,o,by omega,by simpa using ho,hd⟩
  unfold QCQ at h
  cases hx:x.dst with
  | none=>rw[hx]at h;exact step h
  | some d=>
   rw[hx]at h;simp only at h
   cases hb:Nat.beq d t with
   | false=>rw[hb]at h;exact step h
   | true=>
    rw[hb]at h;simp only[cond_true,Option.some.injEq]at h;exact⟨0,x,by omega,rfl,by rw[hx,Nat.eq_of_beq_eq_true hb]⟩
theorem QOi{t:Nat}:∀{l:List Oper}{k:Nat},QCQ l k t=none→∀(i:Nat) (o:Oper),l[i]? = some o→o.dst≠some t:=by
 intro l
 induction l with
 | nil=>intro k _ i o h;simp at h
 | cons x r ih=>
  intro k h i o hi hd
  have hr:QCQ r (k+1) t=none∧x.dst≠some t:=by
   unfold QCQ at h
   cases hx:x.dst with
   | none=>rw[hx]at h;exact⟨h,by simp⟩
   | some d=>
    rw[hx]at h;simp only at h
    cases hb:Nat.beq d t with
    | true=>rw[hb]at h;cases h
    | false=>
     rw[hb]at h;refine⟨h,fun e=>?_⟩;simp only[Option.some.injEq]at e;subst e;simp at hb
  cases i with
  | zero=>
   simp only[List.getElem?_cons_zero,Option.some.injEq]at hi;subst hi;exact hr.2 hd
  | succ i=>exact ih hr.1 i o (by simpa using hi) hd
theorem QHs{t u:Nat}{ou:Oper}(hn:QES (QOM ops)=true)(hu:ops[u]? = some ou)(hd:ou.dst=some t):QCQ ops 0 t=some u:=by
 cases hw:QCQ ops 0 t with
 | none=>exact absurd hd (QOi hw u ou hu)
 | some v=>
  obtain⟨v',o,e,ho,hd'⟩:=QPS hw;have:=QID hn ho hu hd' hd;rw[e,this];simp
structure QDi(N:Nat)(ops:List Oper)(i:Nat)(o:Oper):Prop where
 reads:∀x∈o.op.operands,QUP ops (QCN ops []) i x=true
 dst:∀t,o.dst=some t→t<N
 sel:∀cs b,o.op≠.select cs b
 guard:∀g b,o.guard=some (g,b)→g∈QA9 o∧∃d,QFj ops g=some d
theorem QW2{N:Nat}{befs:List (List Nat)}(hb:befs=QCN ops []):∀(l:List Oper) (k:Nat),Qbz N ops befs l k=true→∀(i:Nat) (o:Oper),l[i]? = some o→QDi N ops (k+i) o:=by
 intro l
 induction l with
 | nil=>intro k _ i o h;simp at h
 | cons x r ih=>
  intro k h i o hi;simp only[Qbz,Bool.and_eq_true]at h;obtain⟨⟨⟨⟨h1,h2⟩,h3⟩,h4⟩,h5⟩:=h
  cases i with
  | succ i=>
   have:=ih (k+1) h5 i o (by simpa using hi);rw[show k+(i+1)=k+1+i by omega];exact this
  | zero=>
   simp only[List.getElem?_cons_zero,Option.some.injEq]at hi;subst hi;refine⟨fun x hx=>?_,fun t ht=>?_,fun cs b e=>?_,fun g b e=>?_⟩
   ·have:=List.all_eq_true.1 h1 x (by simpa using hx);rw[hb]at this;exact this
   ·rw[ht]at h2;simpa [Nat.blt_eq]using h2
   ·rw[e]at h3;simp at h3
   ·rw[e]at h4;simp only[Bool.and_eq_true]at h4;refine⟨QBa.1 h4.1,?_⟩
    cases hd:QFj ops g with
    | none=>rw[hd]at h4;simp at h4
    | some d=>exact⟨d,rfl⟩
end
def KeepsC(w w1:World):Prop:=∀a v,w.cell? a=some v→w1.cell? a=some v
theorem KeepsC.refl(w:World):KeepsC w w:=fun _ _ h=>h
theorem KeepsC.trans{a b c:World}(h:KeepsC a b)(k:KeepsC b c):KeepsC a c:=fun x v e=>k x v (h x v e)
theorem QPN{P:Program}{w:World}:∀(ss:List Sh) (ad:Addr) (i:Nat) (acc:List Value) (K:List Value→WP),QFm ss ad i acc K w →
  ∃vs,(∀w',KeepsC w w'→(loadCellsFrom ad i ss.length acc.reverse.toArray).run P w'=.ok vs.toArray w')∧K vs w:=by
 intro ss
 induction ss with
 | nil=>intro ad i acc K h;exact⟨acc.reverse,fun _ _=>rfl,h⟩
 | cons s ss ih=>
  intro ad i acc K h;rw[QFm,QBW]at h;obtain⟨x,hx,h⟩:=h;obtain⟨vs,hv,h⟩:=ih ad (i+1) (s.mk x::acc) K h;refine⟨vs,fun w' hk=>?_,h⟩;simp only[List.length_cons,loadCellsFrom,Sem.run_bind,run_load,hk _ _ hx,Result.andThen_ok]
  have e:(acc.reverse.toArray.push (s.mk x))=(s.mk x::acc).reverse.toArray:=by simp
  rw[e];exact hv w' hk
theorem QWe[Pan]{P:Program}{w:World}{ρ:Env}{o:Oper}{K:Env→WP}(hl:QEg o=true)(h:QBJ P o ρ K w) :
  ∃v,K (put ρ o.dst v) w∧∀w',KeepsC w w'→(execOp (ev ρ) o).run P w'=.ok (.value v) w':=by
 obtain⟨dst,op,type,pos,after,guard⟩:=o;cases op<;>simp only[QEg,Bool.false_eq_true]at hl
 rename_i t x
 simp only[QBJ,QBW,QBY,QBw,QDS,QCD]at h;simp only[execOp];cases hx:ev ρ x<;>rw[hx]at h<;>try exact h.elim
 rename_i q
 cases q with
 | none=>exact h.elim
 | some ad=>
 simp only at h
 cases hagg:QBj P t with
 | true=>
  rw[hagg]at h;simp only[cond_true]at h;obtain⟨d,hd⟩:=QCk hagg
  cases hsz:QHj P t with
  | none=>rw[hsz]at h;exact h.elim
  | some n=>
   rw[hsz]at h;obtain⟨hb,h⟩:=QAI h;have hb:=Nat.eq_of_beq_eq_true hb;obtain⟨vs,hv,h⟩:=QPN (P:=P) _ _ _ _ _ h;refine⟨_,h,fun w' hk=>QBS ?_⟩;have hv:=hv w' hk;simp only[Instr.loadAt,Instr.sureAddr,Sem.run_bind,Sem.run_pure,Result.andThen_ok,loadVar,QB4 hd,hagg,if_true,QD0 hsz,loadCells];rw[hb];simp only[List.reverse_nil]at hv;rw[hv];rfl
 | false=>
  rw[hagg]at h;simp only[cond_false]at h
  cases hsh:QBX P 20 t with
  | nil=>rw[hsh]at h;exact h.elim
  | cons s r=>
   cases r with
   | cons _ _=>rw[hsh]at h;exact h.elim
   | nil=>
    rw[hsh]at h;obtain⟨d,hd⟩:=QEq hsh;obtain⟨y,hy,h⟩:=h;refine⟨_,h,fun w' hk=>QBS ?_⟩;simp only[Instr.loadAt,Instr.sureAddr,Sem.run_bind,Sem.run_pure,Result.andThen_ok,loadVar,QB4 hd,hagg,Bool.false_eq_true,if_false,run_load,hk _ _ hy]
theorem QWh[Pan]{P:Program}{w:World}{ρ:Env}{o:Oper}{K:Env→WP}(hnul:QDm P o=true)(h:QBJ P o ρ K w) :
  ∃v,K (put ρ o.dst v) w∧(∀w',KeepsC w w'→(execOp (ev ρ) o).run P w'=.ok (.value v) w')∧(QEg o=true∨∀w',(execOp (ev ρ) o).run P w'=.ok (.value v) w'):=by
 cases hl:QEg o with
 | true=>
  obtain⟨v,h1,h2⟩:=QWe hl h;exact⟨v,h1,h2,.inl rfl⟩
 | false=>
  obtain⟨v,h1,_,h3⟩:=QLY hnul h;rcases h3 with h3|h3
  ·rw[hl]at h3;cases h3
  ·exact⟨v,h1,fun w' _=>h3 w',.inr h3⟩
theorem QTK(w:World)(o:Obj):KeepsC w (w.alloc o):=by
 intro a v h
 have hlt:a.block<w.heap.size:=by
  unfold World.cell? at h;split at h
  ·rename_i hb;exact (Array.getElem?_eq_some_iff.1 hb).1
  ·cases h
 have e:(w.alloc o).heap[a.block]? = w.heap[a.block]?:=by
  show (w.heap.push o)[a.block]? = _;rw[Array.getElem?_push_lt hlt,Array.getElem?_eq_getElem hlt]
 unfold World.cell? at h⊢;rw[e];exact h
theorem QS1[Pan]{P:Program}{w:World}{ρ:Env}{o:Oper}{K:Env→WP}(ha:QJP o=true)(h:QBJ P o ρ K w):QBJ P o ρ (fun ρ' w1=>K ρ' w1∧KeepsC w w1) w:=by
 obtain⟨dst,op,type,pos,after,guard⟩:=o;have xn:∀{cs:List Value}{e:TypeId}{F:Nat→WP},QDE cs e F w→QDE cs e (fun b w1=>F b w1∧KeepsC w w1) w:=fun h=>⟨h,QTK _ _⟩;cases op<;>simp only[QJP,Bool.false_eq_true]at ha
 ·rename_i e
  simp only[QBJ,QBW,QBY,QBw,QDS,QCD]at h⊢
  cases hz:(P.info? e).bind (·.zero) with
  | none=>rw[hz]at h;exact h.elim
  | some z=>rw[hz]at h;exact xn h
 ·simp only[QBJ,QBW,QBY,QBw,QDS,QCD]at h⊢;exact xn h
 ·rename_i t len parts
  simp only[QBJ,QBW,QBY,QBw,QDS,QCD]at h⊢
  cases hu:P.underlying t with
  | none=>rw[hu]at h;exact h.elim
  | some d=>
   rw[hu]at h;cases d <;> (try exact h.elim)
   rename_i e
   simp only at h⊢
   cases hs:QHj P e with
   | none=>rw[hs]at h;exact h.elim
   | some n=>
    cases hz:QEw P e with
    | none=>rw[hs,hz]at h;exact h.elim
    | some z=>
     rw[hs,hz]at h;simp only at h⊢;obtain⟨hb,h⟩:=QAI h;rw[hb];simp only[cond_true]
     cases hf:QNO (fun i=>some (i*n,n)) (QIQ z len) (QML ρ parts.toList) with
     | none=>rw[hf]at h;exact h.elim
     | some cs=>rw[hf]at h;exact xn h
def QGu(V:Nat→Value)(o:Oper):Prop:=
 match o.guard with
 | none=>True
 | some (g,b)=>V g=.bool b
inductive OrdOK (ops:List Oper):List Nat→Prop
 | nil:OrdOK ops []
 | cons {x:Nat}{X:List Nat}:(∀o,ops[x]? = some o→∀m∈QA9 o,m∈X)→OrdOK ops X→OrdOK ops (x::X)
theorem OrdOK.closed{ops:List Oper}{X:List Nat}(h:OrdOK ops X):∀i o,i∈X→ops[i]? = some o→∀m∈QA9 o,m∈X:=by
 induction h with
 | nil=>intro i o hi;cases hi
 | cons hx _ ih=>
  intro i o hi ho m hm;rcases List.mem_cons.1 hi with rfl|hi
  ·exact List.mem_cons_of_mem _ (hx o ho m hm)
  ·exact List.mem_cons_of_mem _ (ih i o hi ho m hm)
def Dn(listed:Array Bool)(i:Nat):Prop:=listed[i]? = some true
def Src(ops:List Oper)(ρ0:Env)(X:List Nat)(V:Nat→Value)(i:Nat)(o:Oper)(ρ:Env):Prop:=
 ∀x∈o.op.operands,QNJ ρ x=true∧∀t,x=.tmp t →
  (∃u ou,ops[u]? = some ou∧ou.dst=some t∧QBy u (QBN (QCN ops []) i)=true∧gv ρ t=V u∧u∈X) ∨
  (has ρ0 t=true∧gv ρ t=gv ρ0 t∧∀(u:Nat) (ou:Oper),ops[u]? = some ou→ou.dst=some t→QBy u (QBN (QCN ops []) i)=false∧QBy i (QBN (QCN ops []) u)=true)
def Pend(P:Program)(ops:List Oper)(ρ0:Env)(X:List Nat)(V:Nat→Value)(w:World)(i:Nat)(o:Oper):Prop:=
 (QGu V o∧∃ρ,Src ops ρ0 X V i o ρ∧(∀w',KeepsC w w'→(execOp (ev ρ) o).run P w'=.ok (.value (V i)) w')∧(QEg o=true∨∀w',(execOp (ev ρ) o).run P w'=.ok (.value (V i)) w')) ∨
 (¬QGu V o∧V i=undef)
def EnvOK(ops:List Oper)(ρ0:Env)(X:List Nat)(V:Nat→Value)(ρ:Env):Prop:=
 ∀t,has ρ t=true→(∃i o,i∈X∧ops[i]? = some o∧o.dst=some t∧gv ρ t=V i)∨(has ρ0 t=true∧gv ρ t=gv ρ0 t∧∀(i:Nat) (o:Oper),i∈X→ops[i]? = some o→o.dst≠some t)
structure Can(P:Program)(ops:List Oper)(ρ0:Env)(D:Nat→Prop)(w:World)(X:List Nat)(V:Nat→Value)(ρ:Env):Prop where
 ord:OrdOK ops X
 xb:∀i∈X,∃o,ops[i]? = some o
 env:EnvOK ops ρ0 X V ρ
 pend:∀i o,i∈X→¬D i→ops[i]? = some o→Pend P ops ρ0 X V w i o
structure Act1(dl:List Deferred)(N:Nat)(ops:List Oper)(ρ0:Env)(Fr:Act→Prop)(listed:Array Bool)(a:Act)(X:List Nat)(V:Nat→Value):Prop where
 lsize:listed.size=ops.length
 dx:∀i,Dn listed i→i∈X
 dcl:∀i o,Dn listed i→ops[i]? = some o→∀m∈QA9 o,Dn listed m
 size:N≤a.tmps.size
 defs:a.defers=dl
 fr:Fr a
 vals:∀i o t,Dn listed i→ops[i]? = some o→o.dst=some t→a.tmps[t]? = some (V i)
 base:∀t,has ρ0 t=true→(∀i o,Dn listed i→ops[i]? = some o→o.dst≠some t)→a.tmps[t]? = some (gv ρ0 t)
section
variable [Pan] {P:Program}{rn:Option Nat}{dl:List Deferred}{N:Nat}{ops:List Oper}{ρ0:Env}{X:List Nat}{V:Nat→Value}
theorem QHE{g d:Nat}(h:QFj ops g=some d):∃o,ops[g]? = some o∧o.dst=some d:=by
 unfold QFj at h
 cases ho:ops[g]? with
 | none=>rw[ho]at h;cases h
 | some o=>rw[ho]at h;exact⟨o,rfl,h⟩
theorem EnvOK.at{ρ:Env}(he:EnvOK ops ρ0 X V ρ)(hn:QES (QOM ops)=true){i t:Nat}{o:Oper}(hi:i∈X)(ho:ops[i]? = some o)(hd:o.dst=some t)(hh:has ρ t=true):gv ρ t=V i:=by
 rcases he t hh with⟨j,oj,_,hoj,hdj,hv⟩|⟨_,_,hno⟩
 ·rw[hv,QID hn hoj ho hdj hd]
 ·exact absurd hd (hno i o hi ho)
theorem QZf{dec:List Nat}{ρ:Env}{i:Nat}{o:Oper}{r:Bool}(he:EnvOK ops ρ0 X V ρ)(hn:QES (QOM ops)=true)(hf:QDi N ops i o)(hX:∀m∈QA9 o,m∈X)
  (h:QTQ ops dec ρ o.guard=some r):QGu V o↔r=true:=by
 unfold QGu
 cases hg:o.guard with
 | none=>rw[hg]at h;simp only[QTQ,Option.some.injEq]at h;simp[←h]
 | some gb=>
  obtain⟨g,b⟩:=gb;rw[hg]at h;simp only[QTQ]at h
  cases hm:QBy g dec with
  | false=>rw[hm]at h;cases h
  | true=>
   rw[hm]at h;simp only[cond_true]at h;obtain⟨hgd,d,hd⟩:=hf.guard g b hg;rw[hd]at h;simp only at h
   cases hh:has ρ d with
   | false=>rw[hh]at h;cases h
   | true=>
    rw[hh]at h;simp only[cond_true]at h;obtain⟨og,hog,hdg⟩:=QHE hd;have hv:=he.at hn (hX g hgd) hog hdg hh
    (try simp only)
    rw[←hv];clear hv;cases hgv:gv ρ d<;>rw[hgv]at h<;>simp only[reduceCtorEq,Option.some.injEq]at h
    rename_i x
    subst h;cases x<;>cases b<;>simp
theorem QNR{dec:List Nat}{ρ:Env}{i:Nat}{o:Oper}{r:Bool}(he:EnvOK ops ρ0 X V ρ)(hn:QES (QOM ops)=true)(hf:QDi N ops i o)(hX:∀m∈QA9 o,m∈X)
  (h:QO5 ops dec ρ o.guard=some r):QGu V o↔r=true:=by
 unfold QO5 at h
 cases hs:QTQ ops dec ρ o.guard with
 | some r'=>
  rw[hs]at h;simp only[Option.some.injEq]at h;subst h;exact QZf he hn hf hX hs
 | none=>
  rw[hs]at h
  cases hg:o.guard with
  | none=>rw[hg]at h;simp at h
  | some gb=>
   obtain⟨g,b⟩:=gb;rw[hg]at h;simp only at h;obtain⟨hgd,d,hd⟩:=hf.guard g b hg;rw[hd]at h;simp only at h
   cases hu:(has ρ d&&QT2 (gv ρ d)) with
   | false=>rw[hu]at h;cases h
   | true=>
    rw[hu]at h;simp only[cond_true,Option.some.injEq]at h;simp only[Bool.and_eq_true]at hu;obtain⟨og,hog,hdg⟩:=QHE hd;have hv:=he.at hn (hX g hgd) hog hdg hu.1;unfold QGu;rw[hg,←h]
    (try simp only)
    rw[←hv];have h2:=hu.2;clear hv;cases hgv:gv ρ d<;>rw[hgv]at h2<;>simp[QT2]at h2⊢
theorem EnvOK.known{ρ:Env}(he:EnvOK ops ρ0 X V ρ){d:Nat}{x:Bool}(hh:has ρ d=true)(hv:gv ρ d=.bool x):EnvOK ops ρ0 X V ((d,.bool x)::ρ):=by
 intro t ht;rw[QCv]at ht;rw[QCy]
 cases hb:Nat.beq d t with
 | true=>
  have:=Nat.eq_of_beq_eq_true hb;subst this;simp only[cond_true];rw[←hv];exact he d hh
 | false=>
  rw[hb]at ht;exact he t ht
theorem QJ1{o:Oper}{i:Nat}{dec:List Nat}{ρ:Env}{kR kS:List Nat→Env→WP}{w:World}(he:EnvOK ops ρ0 X V ρ)(hn:QES (QOM ops)=true)(hf:QDi N ops i o)(hX:∀m∈QA9 o,m∈X)
  (h:QPY P N ops o dec ρ kR kS w) :
  ∃dec' ρ',EnvOK ops ρ0 X V ρ'∧((QGu V o∧QSO N ρ' o=true∧QBJ P o ρ' (kR dec') w)∨(¬QGu V o∧kS dec' (put ρ' o.dst undef) w)):=by
 unfold QPY at h
 cases hg:QO5 ops dec ρ o.guard with
 | some r=>
  rw[hg]at h;have hw:=QNR he hn hf hX hg
  cases r with
  | true=>
   obtain⟨hok,h⟩:=QAI h;exact⟨dec,ρ,he,.inl ⟨hw.2 rfl,hok,h⟩⟩
  | false=>exact⟨dec,ρ,he,.inr ⟨fun hh=>Bool.false_ne_true (hw.1 hh),h⟩⟩
 | none=>
  rw[hg]at h
  cases hgo:o.guard with
  | none=>rw[hgo]at hg;simp[QO5,QTQ]at hg
  | some jb=>
   obtain⟨j,b⟩:=jb;rw[hgo]at h;simp only at h;obtain⟨hjd,d,hd⟩:=hf.guard j b hgo;rw[hd]at h;simp only at h
   cases hh:has ρ d with
   | false=>rw[hh]at h;exact h.elim
   | true=>
    rw[hh]at h;cases hv:gv ρ d <;> (try (rw[hv]at h;exact h.elim))
    rename_i x
    rw[hv]at h;simp only at h;obtain⟨og,hog,hdg⟩:=QHE hd;have hV:=he.at hn (hX j hjd) hog hdg hh
    have hw:QGu V o↔x=b:=by
     unfold QGu;rw[hgo]
     (try simp only)
     rw[←hV,hv];simp
    obtain⟨ht,hfa⟩:=h
    have fin:∀(ρ1:Env),EnvOK ops ρ0 X V ρ1→(x=b→(bif QSO N ρ1 o then QBJ P o ρ1 (kR (j::dec)) else bad) w)→(x≠b→kS (j::dec) (put ρ1 o.dst undef) w) →
      ∃dec' ρ',EnvOK ops ρ0 X V ρ'∧((QGu V o∧QSO N ρ' o=true∧QBJ P o ρ' (kR dec') w)∨(¬QGu V o∧kS dec' (put ρ' o.dst undef) w)):=by
     intro ρ1 he1 h1 h2;by_cases hxb:x=b
     ·obtain⟨hok,h⟩:=QAI (h1 hxb);exact⟨j::dec,ρ1,he1,.inl ⟨hw.2 hxb,hok,h⟩⟩
     ·exact⟨j::dec,ρ1,he1,.inr ⟨fun hh=>hxb (hw.1 hh),h2 hxb⟩⟩
    cases x with
    | true=>
     have ht:=ht rfl
     cases b with
     | true=>exact fin _ (he.known hh hv) (fun _=>ht) (fun h=>absurd rfl h)
     | false=>exact fin _ (he.known hh hv) (fun h=>by cases h) (fun _=>ht)
    | false=>
     have ht:=hfa rfl
     cases b with
     | true=>exact fin _ (he.known hh hv) (fun h=>by cases h) (fun _=>ht)
     | false=>exact fin _ (he.known hh hv) (fun _=>ht) (fun h=>absurd rfl h)
def upd(V:Nat→Value)(i:Nat)(v:Value):Nat→Value:=fun j=>if j=i then v else V j
theorem QK2(V:Nat→Value)(i:Nat)(v:Value):upd V i v i=v:=by simp[upd]
theorem QNT{V:Nat→Value}{i j:Nat}{v:Value}(h:j≠i):upd V i v j=V j:=by simp[upd,h]
theorem QMT{i:Nat}{v:Value}{o:Oper}{k:Nat}(hf:QDi N ops k o)(hX:∀m∈QA9 o,m∈X)(hi:i∉X):QGu (upd V i v) o↔QGu V o:=by
 unfold QGu
 cases hg:o.guard with
 | none=>exact Iff.rfl
 | some gb=>
  obtain⟨g,b⟩:=gb;have:=hX g (hf.guard g b hg).1
  (try simp only)
  rw[QNT (j:=g) (fun e=>hi (by rw[←e];exact this))]
theorem Src.upd{i k:Nat}{v:Value}{o:Oper}{ρ:Env}(h:Src ops ρ0 X V k o ρ)(hi:i∉X):Src ops ρ0 (i::X) (upd V i v) k o ρ:=by
 intro x hx;obtain⟨h1,h2⟩:=h x hx;refine⟨h1,fun t ht=>?_⟩;rcases h2 t ht with⟨u,ou,hu,hd,hm,hv,hX⟩|h3
 ·exact .inl ⟨u,ou,hu,hd,hm,by rw[hv,QNT (j:=u) (fun e=>hi (by rw[←e];exact hX))],List.mem_cons_of_mem _ hX⟩
 ·exact .inr h3
theorem EnvOK.put{ρ:Env}{i:Nat}{o:Oper}{v:Value}(he:EnvOK ops ρ0 X V ρ)(hi:i∉X)(ho:ops[i]? = some o):EnvOK ops ρ0 (i::X) (upd V i v) (Cf.put ρ o.dst v):=by
 intro t ht;by_cases hdt:o.dst=some t
 ·refine .inl ⟨i,o,List.mem_cons_self ..,ho,hdt,?_⟩;rw[QK2,hdt];simp[Cf.put,QCy]
 ·have hh:has ρ t=true∧gv (Cf.put ρ o.dst v) t=gv ρ t:=by
   cases hd:o.dst with
   | none=>rw[hd]at ht;exact⟨ht,rfl⟩
   | some d=>
    rw[hd]at ht hdt
    have hne:Nat.beq d t=false:=by
     cases hb:Nat.beq d t with
     | false=>rfl
     | true=>rw[Nat.eq_of_beq_eq_true hb]at hdt;exact absurd rfl hdt
    simp only[Cf.put,QCv,QCy,hne,cond_false]at ht⊢;exact⟨ht,trivial⟩
  rw[hh.2];rcases he t hh.1 with⟨j,oj,hj,hoj,hdj,hv⟩|⟨h1,h2,h3⟩
  ·exact .inl ⟨j,oj,List.mem_cons_of_mem _ hj,hoj,hdj,by rw[hv,QNT (j:=j) (fun e=>hi (by rw[←e];exact hj))]⟩
  ·refine .inr ⟨h1,h2,fun k ok hk hok=>?_⟩;rcases List.mem_cons.1 hk with rfl|hk
   ·rw[ho]at hok;cases hok;exact hdt
   ·exact h3 k ok hk hok
theorem QJc{ρ:Env}{i:Nat}{o:Oper}(he:EnvOK ops ρ0 X V ρ)(hn:QES (QOM ops)=true)(hf:QDi N ops i o)(hord:OrdOK ops X)(ho:ops[i]? = some o)(hX:∀m∈QA9 o,m∈X)(hi:i∉X)(hok:QSO N ρ o=true) :
  Src ops ρ0 X V i o ρ:=by
 intro x hx;simp only[QSO,Bool.and_eq_true,List.all_eq_true]at hok;refine⟨hok.1.1 x (by simpa using hx),fun t ht=>?_⟩;subst ht;have hh:has ρ t=true:=hok.1.1 (.tmp t) (by simpa using hx);have hro:=hf.reads _ hx;have hclX:∀r,QBy r (QBN (QCN ops []) i)=true→r∈X:=QHN (D:=(· ∈ X)) (fun a b c d=>hord.closed a b c d) i o ho hX;rcases he t hh with⟨u,ou,hu,hou,hd,hv⟩|⟨h1,h2,h3⟩
 ·refine .inl ⟨u,ou,hou,hd,?_,hv,hu⟩;simp only[QUP,QHs hn hou hd,Bool.and_eq_true,Bool.or_eq_true]at hro;rcases hro.2 with h|h
  ·exact h
  ·exact absurd (QHN (D:=(· ∈ X)) (fun a b c d=>hord.closed a b c d) u ou hou (hord.closed u ou hu hou) i h) hi
 ·refine .inr ⟨h1,h2,fun u ou hou hd=>?_⟩;have hnX:u∉X:=fun h=>h3 u ou h hou hd
  have h4:QBy u (QBN (QCN ops []) i)=false:=by
   cases hb:QBy u (QBN (QCN ops []) i) with
   | false=>rfl
   | true=>exact absurd (hclX u hb) hnX
  simp only[QUP,QHs hn hou hd,h4,Bool.false_or,Bool.and_eq_true]at hro;exact⟨h4,hro.2⟩
theorem Pend.upd{w:World}{i k:Nat}{v:Value}{o:Oper}(hf:QDi N ops k o)(hX:∀m∈QA9 o,m∈X)(hi:i∉X)(hk:k∈X)(h:Pend P ops ρ0 X V w k o):Pend P ops ρ0 (i::X) (Cf.upd V i v) w k o:=by
 have hne:k≠i:=fun e=>hi (by rw[←e];exact hk);unfold Pend at h⊢;rw[QMT hf hX hi,QNT hne];rcases h with⟨hw,ρ,hs,hr⟩|h
 ·exact .inl ⟨hw,ρ,hs.upd hi,hr⟩
 ·exact .inr h
def QbJ:St→Prop
 | .nul _ _=>False
 | _=>True
theorem QZu{D:Nat→Prop}{w:World}{K:Env→WP}(hn:QES (QOM ops)=true)(hall:∀i o,ops[i]? = some o→QDi N ops i o):∀(S:St) {X:List Nat}{V:Nat→Value}{dec:List Nat}{ρ:Env},
  Can P ops ρ0 D w X V ρ→(∀i,D i→i∈X)→QFU P ops (QCN ops []) S X []=true→QBh P N ops S dec ρ K w →
  ∃S' X' V' dec' ρ',Can P ops ρ0 D w X' V' ρ'∧(∀i∈X,i∈X'∧V' i=V i)∧QFU P ops (QCN ops []) S' X' []=true∧QBh P N ops S' dec' ρ' K w∧QbJ S':=by
 intro S
 induction S with
 | done=>intro X V dec ρ hc _ hs h;exact⟨.done,X,V,dec,ρ,hc,fun i hi=>⟨hi,rfl⟩,hs,h,trivial⟩
 | eff e cs S _=>intro X V dec ρ hc _ hs h;exact⟨.eff e cs S,X,V,dec,ρ,hc,fun i hi=>⟨hi,rfl⟩,hs,h,trivial⟩
 | alt a b _ _=>intro X V dec ρ hc _ hs h;exact⟨.alt a b,X,V,dec,ρ,hc,fun i hi=>⟨hi,rfl⟩,hs,h,trivial⟩
 | nul i S ih=>
   intro X V dec ρ hc hD hs h;simp only[QFU]at hs;simp only[QBh]at h
   cases ho:ops[i]? with
   | none=>rw[ho]at hs;simp at hs
   | some o=>
    rw[ho]at hs h;simp only[Bool.and_eq_true,Bool.not_eq_true',List.all_eq_true]at hs;obtain⟨_,⟨⟨hiX,hnul⟩,hdeps⟩,hs⟩:=hs
    have hiX':i∉X:=fun hh=>by rw[QBa.2 hh]at hiX;cases hiX
    have hdeps':∀m∈QA9 o,m∈X:=fun m hm=>QBa.1 (hdeps m hm);have hf:=hall i o ho
    have step:∀(ρ1:Env) (v:Value) (dec1:List Nat),EnvOK ops ρ0 X V ρ1→Pend P ops ρ0 (i::X) (upd V i v) w i o→QBh P N ops S dec1 (Cf.put ρ1 o.dst v) K w →
      ∃S' X' V' dec' ρ',Can P ops ρ0 D w X' V' ρ'∧(∀i∈X,i∈X'∧V' i=V i)∧QFU P ops (QCN ops []) S' X' []=true∧QBh P N ops S' dec' ρ' K w∧QbJ S':=by
     intro ρ1 v dec1 he1 hp h1
     have hc1:Can P ops ρ0 D w (i::X) (upd V i v) (Cf.put ρ1 o.dst v):=by
      refine⟨.cons (fun o' ho'=>by rw[ho]at ho';cases ho';exact hdeps') hc.ord,fun k hk=>?_,he1.put hiX' ho,fun k ok hk hnk hok=>?_⟩
      ·rcases List.mem_cons.1 hk with rfl|hk
       ·exact⟨o,ho⟩
       ·exact hc.xb k hk
      ·rcases List.mem_cons.1 hk with rfl|hk
       ·rw[ho]at hok;cases hok;exact hp
       ·exact (hc.pend k ok hk hnk hok).upd (hall k ok hok) (hc.ord.closed k ok hk hok) hiX' hk
     obtain⟨S',X',V',dec',ρ',h1,h2,h3⟩:=ih hc1 (fun k hk=>List.mem_cons_of_mem _ (hD k hk)) hs h1;refine⟨S',X',V',dec',ρ',h1,fun k hk=>?_,h3⟩;have:=h2 k (List.mem_cons_of_mem _ hk);exact⟨this.1,by rw[this.2,QNT (fun e=>hiX' (by rw[←e];exact hk))]⟩
    obtain⟨dec',ρ',he',hcase⟩:=QJ1 hc.env hn hf hdeps' h;rcases hcase with⟨hw,hok,h1⟩|⟨hw,h1⟩
    ·obtain⟨v,hk,hr,hl⟩:=QWh hnul h1;refine step ρ' v dec' he' (.inl ⟨(QMT hf hdeps' hiX').2 hw,ρ',?_,by rw[QK2];exact⟨hr,hl⟩⟩) hk;exact (QJc he' hn hf hc.ord ho hdeps' hiX' hok).upd hiX'
    ·exact step ρ' undef dec' he' (.inr ⟨fun hh=>hw ((QMT hf hdeps' hiX').1 hh),QK2 ..⟩) h1
theorem QaV{l:List Nat}(h:(!(Qdl l))=true):l≠[]:=by
 intro e;subst e;simp[Qdl]at h
theorem QSd{w:World}{K:Env→WP}{dec:List Nat}{ρ:Env}:∀(S:St) {X H:List Nat},QFU P ops (QCN ops []) S X H=true→QBh P N ops S dec ρ K w→∀i∈QIK S,
  ∃cs t H',QFU P ops (QCN ops []) (.eff i cs t) X H'=true∧QBh P N ops (.eff i cs t) dec ρ K w∧∀k∈H',k∈QIK S∨k∈H:=by
 intro S
 induction S with
 | done=>intro X H _ _ i hi;cases hi
 | nul i S _=>intro X H _ _ i hi;cases hi
 | eff e cs t _=>
  intro X H hs h i hi;simp only[QIK,List.mem_singleton]at hi;subst hi;exact⟨cs,t,H,hs,h,fun k hk=>.inr hk⟩
 | alt a b iha ihb=>
  intro X H hs h i hi;simp only[QFU,Bool.and_eq_true]at hs;simp only[QBh,Qat]at h;simp only[QIK,List.mem_append]at hi⊢;rcases hi with hi|hi
  ·obtain⟨cs,t,H',h1,h2,h3⟩:=iha hs.1.2 h.1 i hi;refine⟨cs,t,H',h1,h2,fun k hk=>?_⟩;rcases h3 k hk with h|h
   ·exact .inl (.inl h)
   ·rcases List.mem_append.1 h with h|h
    ·exact .inl (.inr h)
    ·exact .inr h
  ·obtain⟨cs,t,H',h1,h2,h3⟩:=ihb hs.2 h.2 i hi;refine⟨cs,t,H',h1,h2,fun k hk=>?_⟩;rcases h3 k hk with h|h
   ·exact .inl (.inr h)
   ·rcases List.mem_append.1 h with h|h
    ·exact .inl (.inl h)
    ·exact .inr h
theorem QYp{S:St}{X:List Nat}(hs:QFU P ops (QCN ops []) S X []=true)(hk:QbJ S):S=.done∨∃i,i∈QIK S:=by
 cases S with
 | done=>exact .inl rfl
 | nul=>exact hk.elim
 | eff e=>exact .inr ⟨e,by simp[QIK]⟩
 | alt a b=>
  simp only[QFU,Bool.and_eq_true]at hs;have:=QaV hs.1.1.1
  cases ha:QIK a with
  | nil=>exact absurd ha this
  | cons i r=>exact .inr ⟨i,by simp[QIK,ha]⟩
theorem QSG:∀(vs:List Value) (ad:Addr) (i:Nat) (acc:List Value) (K:WP) (w:World),QPL vs ad i K w →
  (∀w',KeepsC w w'→(loadCellsFrom ad i vs.length acc.reverse.toArray).run P w'=.ok (acc.reverse++vs).toArray w')∧K w:=by
 intro vs
 induction vs with
 | nil=>intro ad i acc K w h;exact⟨fun _ _=>by simp[loadCellsFrom],h⟩
 | cons v vs ih=>
  intro ad i acc K w h;obtain⟨hv,h⟩:=h;obtain⟨h1,h2⟩:=ih ad (i+1) (v::acc) K w h;refine⟨fun w' hk=>?_,h2⟩;simp only[List.length_cons,loadCellsFrom,Sem.run_bind,run_load,hk _ _ hv,Result.andThen_ok]
  have e:(acc.reverse.toArray.push v)=(v::acc).reverse.toArray:=by simp
  rw[e,h1 w' hk];simp
theorem QTh{t:TypeId}{ad:Addr}{v:Value}{K:WP}{w:World}(h:QTE P t ad v K w):(∀w',KeepsC w w'→(Instr.loadAt t (.pointer (some ad))).run P w'=.ok v w')∧K w:=by
 unfold QTE at h
 cases hagg:QBj P t with
 | true=>
  rw[hagg]at h;simp only[cond_true]at h;obtain⟨d,hd⟩:=QCk hagg;cases v <;> (try exact h.elim)
  rename_i cs
  simp only at h
  cases hsz:QHj P t with
  | none=>rw[hsz]at h;exact h.elim
  | some n=>
   rw[hsz]at h;obtain⟨hb,h⟩:=QAI h;have hb:=Nat.eq_of_beq_eq_true hb;obtain⟨h1,h2⟩:=QSG (P:=P) cs.toList ad 0 [] K w h;refine⟨fun w' hk=>?_,h2⟩;have h1:=h1 w' hk;simp only[Instr.loadAt,Instr.sureAddr,Sem.run_bind,Sem.run_pure,Result.andThen_ok,loadVar,QB4 hd,hagg,if_true,QD0 hsz,loadCells];rw[hb];simp only[List.reverse_nil,List.nil_append]at h1;rw[h1];rfl
 | false=>
  rw[hagg]at h;simp only[cond_false]at h
  cases hd:P.underlying t with
  | none=>rw[hd]at h;exact h.elim
  | some d=>
   rw[hd]at h;obtain⟨hv,h⟩:=h;refine⟨fun w' hk=>?_,h⟩;simp only[Instr.loadAt,Instr.sureAddr,Sem.run_bind,Sem.run_pure,Result.andThen_ok,loadVar,QB4 hd,hagg,Bool.false_eq_true,if_false,run_load,hk _ _ hv]
theorem QV4{dec:List Nat}{ρ:Env}{K:WP}{w:World}:∀(cs:List Nat),QNX P ops dec ρ K cs w→K w∧∀r∈cs,∃o,ops[r]? = some o ∧
  (QO5 ops dec ρ o.guard=some false∨(QO5 ops dec ρ o.guard=some true∧∃t x d ad,o.op=.load t x∧o.dst=some d∧ev ρ x=.pointer (some ad)∧QNJ ρ x=true∧has ρ d=true∧∀w',KeepsC w w'→(Instr.loadAt t (.pointer (some ad))).run P w'=.ok (gv ρ d) w')):=by
 intro cs
 induction cs with
 | nil=>intro h;exact⟨h,fun r hr=>by cases hr⟩
 | cons r cs ih=>
  intro h;simp only[QNX]at h
  cases ho:ops[r]? with
  | none=>rw[ho]at h;exact h.elim
  | some o=>
   rw[ho]at h;simp only at h
   cases hg:QO5 ops dec ρ o.guard with
   | none=>rw[hg]at h;exact h.elim
   | some b=>
    rw[hg]at h
    cases b with
    | false=>
     obtain⟨h1,h2⟩:=ih h;refine⟨h1,fun k hk=>?_⟩;rcases List.mem_cons.1 hk with rfl|hk
     ·exact⟨o,ho,.inl hg⟩
     ·exact h2 k hk
    | true=>
     simp only at h;cases hop:o.op <;> (try (rw[hop]at h;exact h.elim))
     rename_i t x
     rw[hop]at h;simp only at h
     cases hd:o.dst with
     | none=>rw[hd]at h;exact h.elim
     | some d=>
     cases hx:ev ρ x <;> (try (rw[hd,hx]at h;exact h.elim))
     rename_i q
     cases q with
     | none=>rw[hd,hx]at h;exact h.elim
     | some ad=>
     rw[hd,hx]at h;obtain⟨hb,h⟩:=QAI h;simp only[Bool.and_eq_true]at hb;obtain⟨hr,h⟩:=QTh h;obtain⟨h1,h2⟩:=ih h;refine⟨h1,fun k hk=>?_⟩;rcases List.mem_cons.1 hk with rfl|hk
     ·exact⟨o,ho,.inr ⟨hg,t,x,d,ad,hop,hd,hx,hb.1,hb.2,hr⟩⟩
     ·exact h2 k hk
end
end Go.Cf
namespace Go.Cf
open Go
section
variable [Pan] {P:Program}{rn:Option Nat}{dl:List Deferred}{N:Nat}{ops:Array Oper}{ρ0:Env}{Fr:Act→Prop}{Q:Exit→Act→World→Prop}
theorem QI7{listed:Array Bool}{i:Nat}(hl:listed.size=ops.toList.length):i∈Region.ready .any ops listed ↔
  ¬Dn listed i∧∃o,ops.toList[i]? = some o∧∀m∈QA9 o,Dn listed m:=by
 rw[mem_ready]
 have hD:∀m,listed.getD m false=true↔Dn listed m:=by
  intro m;unfold Dn;rw[Array.getD_eq_getD_getElem?];cases listed[m]? <;> simp
 constructor
 ·rintro⟨h0,o,ho,hall⟩;refine⟨fun h=>?_,o,by simpa using ho,fun m hm=>?_⟩
  ·unfold Dn at h;rw[Array.getD_eq_getD_getElem?,h]at h0;cases h0
  ·simp only[QA9,List.mem_map,List.mem_filter]at hm;obtain⟨e,⟨he,hb⟩,rfl⟩:=hm;exact (hD _).1 (hall e (by simpa using he) hb)
 ·rintro⟨h0,o,ho,hall⟩
  have ho':ops[i]? = some o:=by simpa using ho
  refine⟨?_,o,ho',fun e he hb=>(hD _).2 (hall e.on ?_)⟩
  ·have hlt:i<listed.size:=by
    rw[hl];exact (List.getElem?_eq_some_iff.1 ho).1
   unfold Dn at h0
   rw[Array.getD_eq_getD_getElem?,Array.getElem?_eq_getElem hlt]at *
   simp only[Option.getD_some]
   cases hb:listed[i]with
   | false=>rfl
   | true=>rw[hb]at h0;exact absurd rfl h0
  ·simp only[QA9,List.mem_map,List.mem_filter];exact⟨e,⟨by simpa using he,hb⟩,rfl⟩
theorem QIi{listed:Array Bool}{i k:Nat}(hi:i<listed.size):Dn (listed.setIfInBounds i true) k↔k=i∨Dn listed k:=by
 unfold Dn;by_cases e:i=k
 ·subst e;rw[Array.getElem?_setIfInBounds_self_of_lt hi];simp
 ·rw[Array.getElem?_setIfInBounds_ne e];constructor
  ·exact .inr
  ·rintro (h|h)
   ·exact absurd h.symm e
   ·exact h
theorem Act1.step{listed:Array Bool}{a:Act}{X:List Nat}{V V':Nat→Value}{X':List Nat}(h:Act1 dl N ops.toList ρ0 Fr listed a X V)(hn:QES (QOM ops.toList)=true)
  (hlv:Leaves ops.toList Fr) {i:Nat}{o:Oper}(ho:ops.toList[i]? = some o) (hf:QDi N ops.toList i o) (hnd:¬Dn listed i) (hdeps:∀m∈QA9 o,Dn listed m)
  (hX:∀k∈X,k∈X') (hi:i∈X') (hV:∀k,Dn listed k→V' k=V k):Act1 dl N ops.toList ρ0 Fr (listed.setIfInBounds i true) (a.put o.dst (V' i)) X' V':=by
 have hlt:i<listed.size:=by rw[h.lsize];exact (List.getElem?_eq_some_iff.1 ho).1
 have other:∀t,o.dst≠some t→(a.put o.dst (V' i)).tmps[t]? = a.tmps[t]?:=by
  intro t ht
  cases hd:o.dst with
  | none=>rfl
  | some d=>
   have hne:d≠t:=fun e=>ht (by rw[hd,e]);simp only[Act.put];rw[Array.getElem?_setIfInBounds_ne hne]
 have self:∀t,o.dst=some t→(a.put o.dst (V' i)).tmps[t]? = some (V' i):=by
  intro t ht;rw[ht];simp only[Act.put];exact Array.getElem?_setIfInBounds_self_of_lt (Nat.lt_of_lt_of_le (hf.dst t ht) h.size)
 refine⟨by simpa using h.lsize,fun k hk=>?_,fun k ok hk hok m hm=>?_,?_,?_,hlv o (List.mem_of_getElem? ho) _ _ h.fr,fun k ok t hk hok hd=>?_,fun t ht hno=>?_⟩
 ·rcases (QIi hlt).1 hk with rfl|hk
  ·exact hi
  ·exact hX k (h.dx k hk)
 ·rw[QIi hlt];rcases (QIi hlt).1 hk with rfl|hk
  ·rw[ho]at hok;cases hok;exact .inr (hdeps m hm)
  ·exact .inr (h.dcl k ok hk hok m hm)
 ·cases hd:o.dst<;>simpa [Act.put]using h.size
 ·cases hd:o.dst<;>exact h.defs
 ·rcases (QIi hlt).1 hk with rfl|hk
  ·rw[ho]at hok;cases hok;exact self t hd
  ·rw[other t (fun e=>?_),h.vals k ok t hk hok hd,hV k hk];have:=QID hn hok ho hd e;exact hnd (by rw[←this];exact hk)
 ·have hnot:o.dst≠some t:=hno i o ((QIi hlt).2 (.inl rfl)) ho;rw[other t hnot];exact h.base t ht fun k ok hk hok=>hno k ok ((QIi hlt).2 (.inr hk)) hok
theorem QPn{listed:Array Bool}{a:Act}{X:List Nat}{V:Nat→Value}(h:Act1 dl N ops.toList ρ0 Fr listed a X V){i:Nat}{o:Oper}{ρ:Env}(ho:ops.toList[i]? = some o)(hnd:¬Dn listed i)
  (hdeps:∀m∈QA9 o,Dn listed m) (hs:Src ops.toList ρ0 X V i o ρ):∀x∈o.op.operands,a.eval x=ev ρ x:=by
 intro x hx;obtain⟨hh,hc⟩:=hs x hx
 cases x with
 | tmp t=>
  have hcl:=QHN (D:=Dn listed) (fun a b c d=>h.dcl a b c d)
  have key:a.tmps[t]? = some (gv ρ t):=by
   rcases hc t rfl with⟨u,ou,hou,hd,hm,hv,_⟩|⟨h1,h2,h3⟩
   ·rw[hv];exact h.vals u ou t (hcl i o ho hdeps u hm) hou hd
   ·rw[h2];refine h.base t h1 fun k ok hk hok hd=>?_;exact hnd (hcl k ok hok (h.dcl k ok hk hok) i (h3 k ok hok hd).2)
  simp[Act.eval,ev,Array.getD_eq_getD_getElem?,key]
 | _=>rfl
theorem QWZ{listed:Array Bool}{a:Act}{X:List Nat}{V:Nat→Value}(h:Act1 dl N ops.toList ρ0 Fr listed a X V){i:Nat}{o:Oper}(hf:QDi N ops.toList i o)
  (hdeps:∀m∈QA9 o,Dn listed m):Region.wanted o (yielded ops a.tmps)=true↔QGu V o:=by
 unfold Region.wanted QGu
 cases hg:o.guard with
 | none=>simp
 | some gb=>
  obtain⟨g,b⟩:=gb;obtain⟨hgd,d,hd⟩:=hf.guard g b hg;obtain⟨og,hog,hdg⟩:=QHE hd;have hv:=h.vals g og d (hdeps g hgd) hog hdg
  have hog':ops[g]? = some og:=by simpa using hog
  simp only[yielded,hog',Option.bind_some,hdg,hv];cases V g<;>simp
theorem count_set{listed:Array Bool}{i:Nat}(hi:i<listed.size)(hnd:¬Dn listed i):(listed.setIfInBounds i true).toList.count true=listed.toList.count true+1:=by
 rw[Array.toList_setIfInBounds,List.count_set (by simpa using hi)]
 have:listed.toList[i]'(by simpa using hi)=false:=by
  unfold Dn at hnd;rw[Array.getElem?_eq_getElem hi]at hnd;simp only[Array.getElem_toList]
  cases hb:listed[i]with
  | false=>rfl
  | true=>rw[hb]at hnd;exact absurd rfl hnd
 simp[this]
theorem QfD{listed:Array Bool}(h:listed.toList.count true=listed.size):∀i,i<listed.size→Dn listed i:=by
 intro i hi;have:=(List.count_eq_length.1 (by simpa using h)) (listed.toList[i]'(by simpa using hi)) (List.getElem_mem _);unfold Dn;rw[Array.getElem?_eq_getElem hi];simp only[Array.getElem_toList]at this;rw[←this]
theorem QdO{listed:Array Bool}{X:List Nat}(hl:listed.size=ops.toList.length)(hr:Region.ready .any ops listed=[])(hord:OrdOK ops.toList X)(hxb:∀i∈X,∃o,ops.toList[i]? = some o):∀i∈X,Dn listed i:=by
 induction hord with
 | nil=>intro i hi;cases hi
 | @cons x X hx _ ih=>
  have ihX:=ih fun i hi=>hxb i (List.mem_cons_of_mem _ hi);intro i hi;rcases List.mem_cons.1 hi with rfl|hi
  ·obtain⟨o,ho⟩:=hxb i (List.mem_cons_self ..);by_cases hd:Dn listed i
   ·exact hd
   ·have:i∈Region.ready .any ops listed:=(QI7 hl).2 ⟨hd,o,ho,fun m hm=>ihX m (hx o ho m hm)⟩;rw[hr]at this;cases this
  ·exact ihX i hi
set_option maxHeartbeats 1000000 in
theorem Qe4(hng:QI5 P)(hp:PanQ dl Fr Q)(hn:QES (QOM ops.toList)=true)(hall:∀i o,ops.toList[i]? = some o→QDi N ops.toList i o)(hlv:Leaves ops.toList Fr){K:Env→WP}
  (hK:∀ρ a w,Fits N dl ρ a→Fr a→K ρ w→Q .normal a w) :
  ∀(fuel:Nat) (listed:Array Bool) (a:Act) (w:World) (S:St) (X:List Nat) (V:Nat→Value) (dec:List Nat) (ρ:Env),
   listed.toList.count true+fuel=ops.toList.length→Act1 dl N ops.toList ρ0 Fr listed a X V→Can P ops.toList ρ0 (Dn listed) w X V ρ →
   QFU P ops.toList (QCN ops.toList []) S X []=true→QBh P N ops.toList S dec ρ K w→wpAnyIn (FF rn) 0 P .any ops Q fuel listed a w:=by
 -- where all is done
 have fin:∀(listed:Array Bool) (a:Act) (w:World) (S:St) (X:List Nat) (V:Nat→Value) (dec:List Nat) (ρ:Env),Act1 dl N ops.toList ρ0 Fr listed a X V→Can P ops.toList ρ0 (Dn listed) w X V ρ →
   QFU P ops.toList (QCN ops.toList []) S X []=true→QBh P N ops.toList S dec ρ K w→QbJ S→Region.ready .any ops listed=[]→Q .normal a w:=by
  intro listed a w S X V dec ρ hA hC hs h hS hr;have hXD:=QdO hA.lsize hr hC.ord hC.xb;rcases QYp hs hS with rfl|⟨e,he⟩
  ·refine hK ρ a w ⟨hA.size,hA.defs,fun t ht=>?_⟩ hA.fr h;rcases hC.env t ht with⟨i,o,hi,ho,hd,hv⟩|⟨h1,h2,h3⟩
   ·rw[hv];exact hA.vals i o t (hXD i hi) ho hd
   ·rw[h2];exact hA.base t h1 fun i o hi ho=>h3 i o (hA.dx i hi) ho
  ·obtain⟨cs,t,H',hs,_,_⟩:=QSd S hs h e he;simp only[QFU]at hs
   cases ho:ops.toList[e]? with
   | none=>rw[ho]at hs;cases hs
   | some o=>
    rw[ho]at hs;simp only[Bool.and_eq_true,Bool.not_eq_true',List.all_eq_true]at hs
    have h1:e∉X:=fun hh=>by
     have:=hs.1.1.1.1.1;rw[QBa.2 hh]at this;cases this
    have:e∈Region.ready .any ops listed:=(QI7 hA.lsize).2 ⟨fun hd=>h1 (hA.dx e hd),o,ho,fun m hm=>hXD m (QBa.1 (hs.1.1.1.1.2 m hm))⟩;rw[hr]at this;cases this
 intro fuel
 induction fuel with
 | zero=>
  intro listed a w S X V dec ρ hcnt hA hC hs h;have hd:=QfD (listed:=listed) (by rw[hA.lsize];omega)
  have hr:Region.ready .any ops listed=[]:=by
   cases hrr:Region.ready .any ops listed with
   | nil=>rfl
   | cons i r=>
    have:i∈Region.ready .any ops listed:=by rw[hrr];exact List.mem_cons_self ..
    obtain⟨h1,o,ho,_⟩:=(QI7 hA.lsize).1 this;exact absurd (hd i (by rw[hA.lsize];exact (List.getElem?_eq_some_iff.1 ho).1)) h1
  obtain⟨S',X',V',dec',ρ',hC',hsub,hs',h',hS'⟩:=QZu hn hall S hC hA.dx hs h;have hA':Act1 dl N ops.toList ρ0 Fr listed a X' V':=⟨hA.lsize,fun i hi=>(hsub i (hA.dx i hi)).1,hA.dcl,hA.size,hA.defs,hA.fr,fun i o t hi ho hd=>by rw[(hsub i (hA.dx i hi)).2];exact hA.vals i o t hi ho hd,hA.base⟩;exact⟨hr,fin listed a w S' X' V' dec' ρ' hA' hC' hs' h' hS' hr⟩
 | succ fuel ih=>
  intro listed a w S X V dec ρ hcnt hA hC hs h;obtain⟨S',X',V',dec',ρ',hC',hsub,hs',h',hS'⟩:=QZu hn hall S hC hA.dx hs h;have hA':Act1 dl N ops.toList ρ0 Fr listed a X' V':=⟨hA.lsize,fun i hi=>(hsub i (hA.dx i hi)).1,hA.dcl,hA.size,hA.defs,hA.fr,fun i o t hi ho hd=>by rw[(hsub i (hA.dx i hi)).2];exact hA.vals i o t hi ho hd,hA.base⟩;refine⟨fin listed a w S' X' V' dec' ρ' hA' hC' hs' h' hS',fun i hi=>?_⟩;obtain⟨hnd,o,ho,hdeps⟩:=(QI7 hA.lsize).1 hi
  have hlt:i<listed.size:=by rw[hA.lsize];exact (List.getElem?_eq_some_iff.1 ho).1
  have ho':ops[i]? = some o:=by simpa using ho
  have hf:=hall i o ho
  have hcnt':(listed.setIfInBounds i true).toList.count true+fuel=ops.toList.length:=by rw[count_set hlt hnd];omega
  have hwi:=QWZ hA' hf hdeps;by_cases hiX:i∈X'
  ·-- it was met ahead
   have hnext:wpAnyIn (FF rn) 0 P .any ops Q fuel (listed.setIfInBounds i true) (a.put o.dst (V' i)) w:=by
    refine ih _ _ w S' X' V' dec' ρ' hcnt' (hA'.step hn hlv ho hf hnd hdeps (fun k hk=>hk) hiX fun _ _=>rfl) ⟨hC'.ord,hC'.xb,hC'.env,fun k ok hk hnk hok=>hC'.pend k ok hk (fun hd=>hnk ((QIi hlt).2 (.inr hd))) hok⟩ hs' h'
   unfold wpOpIn;simp only[ho'];rcases hC'.pend i o hiX hnd ho with⟨hw,ρi,hsrc,hrun',_⟩|⟨hw,hu⟩
   ·rw[if_pos (hwi.2 hw)];refine QHH (QRC (hrun' w (KeepsC.refl w))) ?_;unfold Oper.wp;rw[execOp_congr o hf.sel (QPn hA' ho hnd hdeps hsrc),hrun' w (KeepsC.refl w)];exact hnext
   ·rw[if_neg (fun hh=>hw (hwi.1 hh))];rw[hu]at hnext;exact⟨fun _ _=>trivial,hnext⟩
  ·-- the next one that changes the world
   have hih:i∈QIK S':=by
    have hil:i∈List.range ops.toList.length:=by rw[List.mem_range];exact (List.getElem?_eq_some_iff.1 ho).1
    rcases QYp hs' hS' with rfl|⟨e,he⟩
    ·simp only[QFU,Bool.and_eq_true,List.all_eq_true]at hs';exact absurd (QBa.1 (hs'.2 i hil)) hiX
    ·obtain⟨cs,t,H',hse,_,hH⟩:=QSd S' hs' h' e he;simp only[QFU]at hse
     cases hoe:ops.toList[e]? with
     | none=>rw[hoe]at hse;cases hse
     | some oe=>
      rw[hoe]at hse;simp only[Bool.and_eq_true,Bool.not_eq_true',List.all_eq_true]at hse;have:=hse.1.1.1.2 i hil;simp only[Bool.or_eq_true,ho,List.any_eq_true,Bool.not_eq_true']at this;rcases this with (h|h)|⟨m,hm,h⟩
      ·exact absurd (QBa.1 h) hiX
      ·rcases List.mem_cons.1 (QBa.1 h) with rfl|h
       ·exact he
       ·rcases hH i h with h|h
        ·exact h
        ·cases h
      ·have:=hA'.dx m (hdeps m hm);rw[QBa.2 this]at h;cases h
   obtain⟨cs,S'',H',hse,hwe,_⟩:=QSd S' hs' h' i hih;clear hs' h';have hs':=hse;have h':=hwe
   ·simp only[QFU]at hs';simp only[QBh]at h'
    ·rw[ho]at hs' h';simp only[Bool.and_eq_true,Bool.not_eq_true',List.all_eq_true]at hs';obtain⟨⟨⟨⟨⟨heX,hed⟩,hoth⟩,hchk⟩,hcs⟩,hs''⟩:=hs';have hdX:∀m∈QA9 o,m∈X':=fun m hm=>hA'.dx m (hdeps m hm);obtain⟨dec1,ρ1,he1,hcase⟩:=QJ1 hC'.env hn hf hdX h';have hclD:=QHN (D:=Dn listed) (fun a b c d=>hA'.dcl a b c d)
     have canon:∀(v:Value) (w1:World),(∀k ok,k∈X'→¬Dn listed k→ops.toList[k]? = some ok→Pend P ops.toList ρ0 (i::X') (upd V' i v) w1 k ok) →
       Can P ops.toList ρ0 (Dn (listed.setIfInBounds i true)) w1 (i::X') (upd V' i v) (put ρ1 o.dst v):=by
      intro v w1 hp;refine⟨.cons (fun o' h=>by rw[ho]at h;cases h;exact hdX) hC'.ord,fun k hk=>?_,he1.put hiX ho,fun k ok hk hnk hok=>?_⟩
      ·rcases List.mem_cons.1 hk with rfl|hk
       ·exact⟨o,ho⟩
       ·exact hC'.xb k hk
      ·rcases List.mem_cons.1 hk with rfl|hk
       ·exact absurd ((QIi hlt).2 (.inl rfl)) hnk
       ·exact hp k ok hk (fun hd=>hnk ((QIi hlt).2 (.inr hd))) hok
     have act:∀v,Act1 dl N ops.toList ρ0 Fr (listed.setIfInBounds i true) (a.put o.dst v) (i::X') (upd V' i v):=by
      intro v;have:=hA'.step (V':=upd V' i v) (X':=i::X') hn hlv ho hf hnd hdeps (fun k hk=>List.mem_cons_of_mem _ hk) (List.mem_cons_self ..) (fun k hk=>QNT fun e=>hnd (by rw[←e];exact hk));rw[QK2]at this;exact this
     unfold wpOpIn;simp only[ho'];rcases hcase with⟨hw,hok,h1⟩|⟨hw,h1⟩
     ·rw[if_pos (hwi.2 hw)]
      have goOn:∀(ka:Bool) (v:Value) (w1:World),(ka=true→KeepsC w w1)→(∀k,k∈X'→QKq ops.toList k=true→QBy k (QBN (QCN ops.toList []) i)=true∨QBy k cs=true∨ka=true) →
        QNX P ops.toList dec1 (put ρ1 o.dst v) (QBh P N ops.toList S'' dec1 (put ρ1 o.dst v) K) cs w1→wpAnyIn (FF rn) 0 P .any ops Q fuel (listed.setIfInBounds i true) (a.put o.dst v) w1:=by
       intro ka v w1 hka hchk h2;obtain⟨h3,h4⟩:=QV4 cs h2;refine ih _ _ w1 S'' (i::X') (upd V' i v) dec1 (put ρ1 o.dst v) hcnt' (act v) (canon v w1 fun k ok hk hnk hok=>?_) hs'' h3;have hfk:=hall k ok hok;have hkd:∀m∈QA9 ok,m∈X':=hC'.ord.closed k ok hk hok;have hki:k≠i:=fun e=>hiX (by rw[←e];exact hk);have hpk:=(hC'.pend k ok hk hnk hok).upd (v:=v) hfk hkd hiX hk;rcases hpk with⟨hwk,ρk,hsk,hrk,hlk⟩|hpk
       ·cases hl:QEg ok with
        | false=>
         rcases hlk with hlk|hlk
         ·rw[hl]at hlk;cases hlk
         ·exact .inl ⟨hwk,ρk,hsk,fun w' _=>hlk w',.inr hlk⟩
        | true=>
         refine .inl ⟨hwk,ρk,hsk,?_,.inl hl⟩;rcases hchk k hk (by simp only[QKq,hok,hl]) with hc|hc|hc
         ·exact absurd (hclD i o ho hdeps k hc) hnk
         ·have hkc:=QBa.1 hc;have hfix:=(hcs k hkc).2;simp only[hok,Bool.and_eq_true]at hfix;obtain⟨ok',hok',hcase'⟩:=h4 k hkc;rw[hok]at hok';cases hok';have he2:EnvOK ops.toList ρ0 (i::X') (upd V' i v) (put ρ1 o.dst v):=he1.put hiX ho;have hkd2:∀m∈QA9 ok,m∈i::X':=fun m hm=>List.mem_cons_of_mem _ (hkd m hm);rcases hcase' with hg|⟨hg,t,x,d,ad,hop,hd,hx,hhx,hhd,hrun⟩
          ·exact absurd ((QNR he2 hn hfk hkd2 hg).1 hwk) Bool.false_ne_true
          ·have hvd:gv (put ρ1 o.dst v) d=upd V' i v k:=he2.at hn (List.mem_cons_of_mem _ hk) hok hd hhd
           have hxop:x∈ok.op.operands:=by rw[hop];simp[Op.operands]
           have hev:ev ρk x=ev (put ρ1 o.dst v) x:=by
            cases x with
            | tmp t'=>
             simp only[ev];have hfx:=hfix.2;simp only[Qb4,hop]at hfx;obtain⟨_,hsc⟩:=hsk _ hxop;rcases hsc t' rfl with⟨u,ou,hou,hdu,_,hvu,huX⟩|⟨q1,q2,q3⟩
             ·rw[hvu];exact (he2.at hn huX hou hdu hhx).symm
             ·rw[q2];rcases he2 t' hhx with⟨u,ou,hu,hou,hdu,_⟩|⟨_,r2,_⟩
              ·simp only[QYg,QHs hn hou hdu]at hfx;rw[(q3 u ou hou hdu).1]at hfx;cases hfx
              ·exact r2.symm
            | _=>rfl
           intro w' hk';simp only[execOp,hop,hev,hx,Sem.run_bind,hrun w' hk',Result.andThen_ok,Sem.run_pure,hvd]
         ·exact fun w' hk'=>hrk w' ((hka hc).trans hk')
       ·exact .inr hpk
      cases hal:QJP o with
      | false=>
       refine (QPC hng (fun w' hq=>hp a w' hA'.defs hA'.fr hq) hf.sel (QPn hA' ho hnd hdeps (QJc he1 hn hf hC'.ord ho hdX hiX hok)) h1 ?_);intro v w1 h2;refine goOn false v w1 (fun h=>by cases h) (fun k hk hl=>?_) h2;have hc:=hchk k hk;simp only[hl,hal,Bool.not_true,Bool.false_or,Bool.or_false,Bool.or_eq_true]at hc;rcases hc with hc|hc
       ·exact .inl hc
       ·exact .inr (.inl hc)
      | true=>
       refine (QPC hng (fun w' hq=>hp a w' hA'.defs hA'.fr hq) hf.sel (QPn hA' ho hnd hdeps (QJc he1 hn hf hC'.ord ho hdX hiX hok)) (QS1 hal h1) ?_);intro v w1 h2;exact goOn true v w1 (fun _=>h2.2) (fun k hk hl=>.inr (.inr rfl)) h2.1
     ·rw[if_neg (fun hh=>hw (hwi.1 hh))];refine⟨fun _ _=>trivial,?_⟩;refine ih _ _ w S'' (i::X') (upd V' i undef) dec1 (put ρ1 o.dst undef) hcnt' (act undef) (canon undef w fun k ok hk hnk hok=>?_) hs'' h1;exact (hC'.pend k ok hk hnk hok).upd (hall k ok hok) (hC'.ord.closed k ok hk hok) hiX hk
theorem QVP(hng:QI5 P)(hp:PanQ dl Fr Q)(hm:P.follows .mixedOrders=true){id:Nat}{S:St}{a:Act}{w:World}{K:Env→WP}{ρ:Env}(hc:Qdd P N ops.toList (QCN ops.toList []) S=true)
  (h:QBh P N ops.toList S [] ρ K w.drew) (hf:Fits N dl ρ a) (hlv:Leaves ops.toList Fr) (hfr:Fr a) (hK:∀ρ a w,Fits N dl ρ a→Fr a→K ρ w→Q .normal a w):(Code.region id ops true).wpIn (FF rn) 0 P Q a w:=by
 simp only[Qdd,Bool.and_eq_true]at hc;obtain⟨⟨hn,hop⟩,hs⟩:=hc;refine wpIn_region_any hm ?_
 have hall:∀i o,ops.toList[i]? = some o→QDi N ops.toList i o:=fun i o ho=>by
  have:=QW2 rfl ops.toList 0 hop i o ho;simpa using this
 have nd:∀i,¬Dn (Array.replicate ops.size false) i:=fun i hi=>by
  unfold Dn at hi;rw[Array.getElem?_replicate]at hi;split at hi<;>simp at hi
 refine Qe4 (ρ0:=ρ) (Fr:=Fr) hng hp hn hall hlv hK ops.size _ a _ S [] (fun _=>undef) [] ρ ?_ ?_ ?_ hs h
 ·simp[List.count_replicate]
 ·exact⟨by simp,fun i hi=>absurd hi (nd i),fun i o hi=>absurd hi (nd i),hf.size,hf.defs,hfr,fun i o t hi=>absurd hi (nd i),fun t ht _=>hf.get t ht⟩
 ·exact⟨.nil,fun i hi=>(by cases hi),fun t ht=>.inr ⟨ht,rfl,fun i o hi=>(by cases hi)⟩,fun i o hi=>(by cases hi)⟩
end
theorem QTR{dl:List Deferred}{N:Nat}{ρ:Env}{cs:List Nat}{l:List Oper}(h:∀t,QBy t (QHf (l.filter fun o=>match o.dst with|some t=>has ρ t|none=>false) [])=true→QBy t cs=true):Leaves l (Keep N dl ρ cs):=by
 intro o ho a v hk
 cases hd:o.dst with
 | none=>exact hk
 | some t=>
  refine⟨by simpa [Act.put]using hk.size,hk.defs,fun u hu hm=>?_⟩
  have hne:t≠u:=by
   intro e;subst e;have:=h t ((QJp _ _).2 (.inr ⟨o,by simp only[List.mem_filter];exact⟨ho,by rw[hd];exact hu⟩,hd⟩));rw[this]at hm;cases hm
  simp only[Act.put];rw[Array.getElem?_setIfInBounds_ne hne];exact hk.get u hu hm
theorem Keep.fits'{dl:List Deferred}{N:Nat}{ρ:Env}{cs:List Nat}{a:Act}(hk:Keep N dl ρ cs a)(f:Nat→Value)(hf:∀t,QBy t cs=true→a.tmps[t]? = some (f t)):Fits N dl (QSS cs (cs.map f) ρ) a:=
 ⟨hk.size,hk.defs,fun t ht=>by
  cases hm:QBy t cs with
  | true=>rw[QY0 cs hm];exact hf t hm
  | false=>
   obtain⟨h1,h2⟩:=QUi (ρ:=ρ) cs (cs.map f) hm;rw[h1]at ht;rw[h2]
   exact hk.get t ht hm⟩
theorem QOu[Pan]{P:Program}(hng:QI5 P)(hm:P.follows .mixedOrders=true)(fn:Func)(N:Nat):QSg P N (QPX P fn N):=by
 intro rn dl id ops Fr ρ KN a w Q hp h hf hlv hfr hN;unfold QPX at h;simp only[QQH,QOA,QBY,QZQ]at h;obtain⟨hc,h⟩:=QAI h
 cases hg:Qb9 ops.toList (QSp P ops.toList (QCN ops.toList []) (ops.toList.length+1) ((List.range ops.toList.length).filter fun i=>!(QO4 P ops.toList i)) [] []) with
 | false=>
  rw[hg]at h;exact QVP hng hp hm hc h hf hlv hfr hN
 | true=>
  rw[hg]at h;simp only[cond_true,QBc]at h
  refine QVP (Fr:=fun a=>Fr a∧Keep N dl ρ (QL3 (QXz fn ops.toList) (QHf (ops.toList.filter fun o=>match o.dst with|some t=>has ρ t|none=>false) [])) a) hng (hp.of fun _ h=>h.1) hm hc h hf
   (hlv.and (QTR fun t ht=>(QL7 _ _).2 (.inr ht))) ⟨hfr,hf.keep _⟩ ?_
  intro ρ' a' w' hf' hfr' h';obtain⟨ha,h'⟩:=QAI h';obtain⟨t,ht,h'⟩:=Cur.appV_app _ _ _ _ h';rw[Cur.app_of,ht]at h';exact hN _ _ _ (hfr'.2.fits' _ (QFM hf' ha)) hfr'.1 h'
def QdS(P:Program):Bool:=P.funcs.toList.all fun fn=>!(fn.name == "runtime.NumGoroutine")
theorem QbV{P:Program}(h:QdS P=true):QI5 P:=fun g fn hg=>by
 have:=List.all_eq_true.1 h fn (by
  have:P.funcs.toList[g]? = some fn:=by simpa using hg
  exact List.mem_of_getElem? this)
 simpa using this
theorem QIV{P:Program}(hng:QI5 P)(hm:P.follows .mixedOrders=true){f:FuncId}{fn:Func}(hf:P.funcs[f]? = some fn){dp:List Nat}{args:List Value}{rs:Rs}{ss:List Sh}
  (hrs:QAc P fn.resultTypes.toList=(rs,ss)) {K:Cur ss}{w:World}(h:wpF P dp (QPX P fn) fn args ss K w):QAb P f args rs ss K w:=by
 obtain⟨rfl,rfl⟩:(QAc P fn.resultTypes.toList).1=rs∧(QAc P fn.resultTypes.toList).2=ss:=by rw[hrs];exact⟨rfl,rfl⟩
 exact QKX hng (fun N=>QOu hng hm fn N) hf h (fun t w' hK=>⟨t,rfl,hK⟩) fun _ hq=>hq.elim
theorem QZT[Pan]{P:Program}(hng:QI5 P)(hm:P.follows .mixedOrders=true){f:FuncId}{fn:Func}(hf:P.funcs[f]? = some fn){dp:List Nat}{args:List Value}{rs:Rs}{ss:List Sh}
  (hrs:QAc P fn.resultTypes.toList=(rs,ss)) {K:Cur ss}{w:World}(h:wpF P dp (QPX P fn) fn args ss K w):QGI P f args rs ss K w:=by
 obtain⟨rfl,rfl⟩:(QAc P fn.resultTypes.toList).1=rs∧(QAc P fn.resultTypes.toList).2=ss:=by rw[hrs];exact⟨rfl,rfl⟩
 exact QKX hng (fun N=>QOu hng hm fn N) hf h (fun t w' hK=>.inl ⟨t,rfl,hK⟩) fun _ hq=>.inr ⟨rfl,hq⟩
end Go.Cf
