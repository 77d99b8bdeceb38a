/-
The formula of whole regions in the order of the text, of code, of a function; the proof that it gives a contract.
-/
import Derived.Test.YthbhbkjkclhkgaaGreatDoorCfA
import Derived.Scope
set_option linter.unusedSimpArgs false
set_option linter.unusedVariables false
set_option linter.unusedSectionVars false
namespace Go.Cf
open Go
def QGq(ops:List Oper)(j:Nat):Option Nat:=
 match ops[j]? with
 | some o=>o.dst
 | none=>none
def QB5(t:Nat):Af->Bool
 | []=>false
 | u::r=>bif Nat.beq u t then true else QB5 t r
def QVQ(ops:List Oper)(a:Af)(ρ:Env):Option (Nat×Bool)->Option Bool
 | none=>some true
 | some (j,b)=>bif QB5 j a then
   (match QGq ops j with
    | some d=>bif has ρ d then (match gv ρ d with|.bool x=>some (bif x then b else !b)|_=>none) else none
    | none=>none)
  else none
def QDq(d:Nat):List Oper->Option (List Oper×Oper×List Oper)
 | []=>none
 | o::r=>match o.op with
  | .pick (.tmp c) _ _=>bif Nat.beq c d then some ([],o,r) else (match QDq d r with|some (g,p,r')=>some (o::g,p,r')|none=>none)
  | _=>match QDq d r with|some (g,p,r')=>some (o::g,p,r')|none=>none
theorem QTO{d:Nat}:∀{l g:List Oper}{p:Oper}{r:List Oper},QDq d l=some (g,p,r)->l=g++p::r/\∃x y,p.op=.pick (.tmp d) x y:=by
 intro l
 induction l with
 | nil=>intro g p r h;cases h
 | cons o l ih=>
  intro g p r h
  have f:(match QDq d l with|some (g,p,b)=>some (o::g,p,b)|none=>none)=some (g,p,r)->o::l=g++p::r/\∃x y,p.op=.pick (.tmp d) x y:=by
   intro h
   cases a:QDq d l with
   | none=>rw[a]at h;cases h
   | some t=>
    obtain⟨k,m,b⟩:=t;rw[a]at h;simp only[Wg,Lm]at h;obtain⟨rfl,rfl,rfl⟩:=h;obtain⟨e,j⟩:=ih a;exact⟨by rw[e];rfl,j⟩
  unfold QDq at h;split at h
  ·rename_i c x y i
   cases hb:Nat.beq c d with
   | false=>rw[hb]at h;exact f h
   | true=>
    rw[hb]at h;simp only[cond_true,Wg,Lm]at h;obtain⟨rfl,rfl,rfl⟩:=h;obtain rfl:=Wo hb;exact⟨rfl,x,y,i⟩
  ·exact f h
def QZ6(P:Program)(o:Oper):Bool:=
 match o.op with
 | .move _=>true
 | .unOp .. => true
 | .binOp op xt _ _ _=>
  (match op with|.quo|.rem|.shl|.shr=>false|_=>true)&&(match P.underlying xt with|some (.int _)=>true|some .bool=>true|_=>false)
 | .call c=>(match c.callee with|.builtin .len=>true|_=>false)&&(match c.argTypes[0]? with|some t=>(match P.underlying t with|some .string=>true|some (.slice _)=>true|_=>false)|none=>false)
 | _=>false
def QDm(j:Nat)(b:Bool):Option (Nat×Bool)->Bool
 | some (j',b')=>Nat.beq j' j&&(bif b' then b else !b)
 | none=>false
def QKr(P:Program)(N:Nat):List Oper->Env->Option Env
 | [],ρ=>some ρ
 | o::os,ρ=>bif QTv N ρ o then (match QYy P ρ o with
   | some (.value v)=>kpO ρ o.dst v fun ρ=>QKr P N os ρ
   | _=>none) else none
def QKk(ops:List Oper)(N j d:Nat)(b:Bool):List Oper->Af->Bool
 | [],_=>true
 | o::os,ds=>(QDm j b o.guard||(match o.guard with|some (j',_)=>(match QGq ops j' with|some d'=>QB5 d' ds|none=>false)|none=>false)) &&
   (match o.dst with|some t=>Nat.blt t N && !(Nat.beq t d)|none=>true) &&
   QKk ops N j d b os (match o.dst with|some t=>t::ds|none=>ds)
def QOk(ρ:Env):List Oper->Bool
 | []=>true
 | o::os=>(match o.dst with|some t=>!(has ρ t)|none=>true)&&QOk ρ os
def QGh:Operand->Bool
 | .const _=>true
 | _=>false
def QVU(o:Oper):Operand×Operand:=
 match o.op with
 | .pick _ a b=>(a,b)
 | _=>(.const undef,.const undef)
def QV3(P:Program)(t:TypeId):Sh:=
 match QBm P 20 t with
 | [s]=>s
 | _=>.val
def QKT[Pan](P:Program)(N:Nat)(ops:List Oper):Nat->Af->List Oper->Env->(Env->WP)->WP
 | _,_,[],ρ,K=>K ρ
 | 0,_,_::_,_,_=>bad
 | f+1,dec,o::os,ρ,K=>match QVQ ops dec ρ o.guard with
  | some true=>bif QTv N ρ o then QBS P o ρ fun a=>QKT P N ops f dec os a K else bad
  | some false=>bif (match o.dst with|some d=>Nat.blt d N|none=>true) then kp (fun ρ=>QKT P N ops f dec os ρ K) ρ o.dst undef else bad
  | none=>match o.guard with
   | none=>bad
   | some (j,b)=>match QGq ops j with
    | none=>bad
    | some d=>match has ρ d,gv ρ d,QDq d (o::os) with
     | true,.bool x,some (g,p,r)=>
      let ok:=QKk ops N j d b g []&&QOk ρ g&&QTv N ρ { p with op:=.move (.tmp d) } && (match QVQ ops dec ρ p.guard with|some true=>true|_=>false) && !(QB5 j dec)
      let (pa,pb):=QVU p
      bif ok then
       bif g.all (fun o=>QZ6 P o&&QDm j b o.guard) then
        (match QKr P N g ((d,.bool b)::ρ) with
         | some a=>
          bif b then (bif QGh pb&&QNX a pa then kp (fun ρ=>QKT P N ops f dec r ρ K) ρ p.dst (QYe x pa pb (ev a pa) (ev ρ pb)) else bad)
          else (bif QGh pa&&QNX a pb then kp (fun ρ=>QKT P N ops f dec r ρ K) ρ p.dst (QYe x pa pb (ev ρ pa) (ev a pb)) else bad)
         | none=>bad)
       else
        let sh:=QV3 P p.type
        bif b then (bif QGh pb then
          fSh sh fun sh=>QBW [sh] (fun c=>XIf x (QKT P N ops f (j::dec) g ((d,.bool true)::ρ) fun a=>bif QNX a pa&&has a d&&(match gv a d with|.bool true=>true|_=>false) then Cur.appV [sh] c [ev a pa] else bad) (Cur.appV [sh] c [ev ρ pb]))
           (Cur.of [sh] fun vs=>kp (fun ρ=>QKT P N ops f dec r ρ K) ρ p.dst (vs.headD undef)) else bad)
        else (bif QGh pa then
          fSh sh fun sh=>QBW [sh] (fun c=>XIf x (Cur.appV [sh] c [ev ρ pa]) (QKT P N ops f (j::dec) g ((d,.bool false)::ρ) fun a=>bif QNX a pb&&has a d&&(match gv a d with|.bool false=>true|_=>false) then Cur.appV [sh] c [ev a pb] else bad))
           (Cur.of [sh] fun vs=>kp (fun ρ=>QKT P N ops f dec r ρ K) ρ p.dst (vs.headD undef)) else bad)
      else bad
     | _,_,_=>bad
def QOM(id:Nat):Code->Nat
 | .seq a b=>QOM id a+QOM id b
 | .cond _ a b=>QOM id a+QOM id b
 | .block _ b=>QOM id b
 | .scope b=>QOM id b
 | .loop b=>QOM id b
 | .exit i=>bif Nat.beq i id then 1 else 0
 | _=>0
def QLf:Code->Bool
 | .skip=>true
 | .region .. => true
 | .seq a b=>QLf a&&QLf b
 | .cond _ a b=>QLf a||QLf b
 | .block id b=>QLf b||Nat.blt 0 (QOM id b)
 | .label _=>true
 | .scope b=>QLf b
 | _=>false
def Qgp(t:Nat)(l:Af):Af:=bif QB5 t l then l else l++[t]
def QIY:List Oper->Af->Af
 | [],acc=>acc
 | o::os,acc=>QIY os (match o.dst with|some t=>Qgp t acc|none=>acc)
def wr(ρ:Env):Code->Af->Af
 | .region _ ops _,acc=>QIY (ops.toList.filter fun o=>match o.dst with|some t=>has ρ t|none=>false) acc
 | .seq a b,acc=>wr ρ b (wr ρ a acc)
 | .cond _ a b,acc=>wr ρ b (wr ρ a acc)
 | .block _ b,acc=>wr ρ b acc
 | .scope b,acc=>wr ρ b acc
 | .loop b,acc=>wr ρ b acc
 | _,acc=>acc
def dom:Env->Nat->Nat
 | [],m=>m
 | (u,_)::r,m=>dom r (Nat.lor m (Nat.shiftLeft 1 u))
def QhY:Env->Nat->(Nat->WP)->WP
 | [],m,f=>f m
 | (u,_)::r,m,f=>QhY r (Nat.lor m (Nat.shiftLeft 1 u)) f
theorem QRU:∀(ρ:Env) (m:Nat) (f:Nat->WP),QhY ρ m f=f (dom ρ m)
 | [],_,_=>rfl
 | (u,v)::r,m,f=>QRU r _ f
theorem Qar:∀(ρ:Env) (m t:Nat),(dom ρ m).testBit t=(m.testBit t||has ρ t)
 | [],m,t=>by simp[dom,has]
 | (u,v)::r,m,t=>by
  rw[dom,Qar r];show ((m ||| (1 <<< u)).testBit t||has r t)=_;rw[Nat.testBit_or,Nat.testBit_shiftLeft];rw[has]
  cases hb:Nat.beq u t with
  | true=>
   obtain rfl:=Wo hb;simp
  | false=>
   have:u≠t:=fun e=>by subst e;simp at hb
   have h0:(decide (t>=u)&&Nat.testBit 1 (t - u))=false:=by
    rw[Uc];by_cases h:t>=u
    ·right
     cases a:Nat.testBit 1 (t - u) with
     | false=>rfl
     | true=>have:=Nat.testBit_one_eq_true_iff_self_eq_zero.1 a;omega
    ·left;simpa using h
   rw[h0];simp
def QeL(M:Nat):List Oper->Af->Af
 | [],acc=>acc
 | o::os,acc=>QeL M os (match o.dst with|some t=>bif M.testBit t then Qgp t acc else acc|none=>acc)
def wr2(M:Nat):Code->Af->Af
 | .region _ ops _,acc=>QeL M ops.toList acc
 | .seq a b,acc=>wr2 M b (wr2 M a acc)
 | .cond _ a b,acc=>wr2 M b (wr2 M a acc)
 | .block _ b,acc=>wr2 M b acc
 | .scope b,acc=>wr2 M b acc
 | .loop b,acc=>wr2 M b acc
 | _,acc=>acc
theorem QVk(ρ:Env):∀(l:List Oper) (b:Af),QeL (dom ρ 0) l b=QIY (l.filter fun o=>match o.dst with|some t=>has ρ t|none=>false) b
 | [],_=>rfl
 | o::os,b=>by
  rw[QeL,QVk ρ os,List.filter_cons]
  cases c:o.dst with
  | none=>simp
  | some t=>
   simp only[Qar,Nat.zero_testBit,Bool.false_or];by_cases a:has ρ t=true
   ·rw[We a,a];simp only[cond_true,QIY,c]
   ·rw[Wb a,Zd.2 a];simp only[cond_false]
theorem Qb4(ρ:Env)(c:Code):∀(e:Af),wr2 (dom ρ 0) c e=wr ρ c e:=by
 induction c with
 | region i ops d=>intro e;exact QVk ρ _ e
 | seq a b iha ihb=>intro e;rw[wr2,wr,iha,ihb]
 | cond x a b iha ihb=>intro e;rw[wr2,wr,iha,ihb]
 | block i b ih=>intro e;rw[wr2,wr,ih]
 | scope b ih=>intro e;rw[wr2,wr,ih]
 | loop b ih=>intro e;rw[wr2,wr,ih]
 | _=>intro e;rfl
def QOB:Af->Ad->Env->Env
 | t::ts,v::vs,ρ=>(t,v)::QOB ts vs ρ
 | _,_,ρ=>ρ
def QgU(id:Nat):List (Nat×(Env->WP))->Env->WP
 | []=>fun _=>bad
 | (i,k)::r=>bif Nat.beq i id then k else QgU id r
def QKF(a:Af):Env->Env
 | []=>[]
 | (u,v)::r=>bif QB5 u a then QKF a r else (u,v)::QKF a r
def QFf(dp:Af):Af->Af
 | []=>[]
 | t::r=>bif QB5 t dp then QFf dp r else t::QFf dp r
def QHH(ρ:Env)(cs:Af):Bool:=cs.all (has ρ)
def wpC[Pan](P:Program)(N:Nat)(dp:Af)(e:List Oper->Env->(Env->WP)->WP):Code->Env->(Env->WP)->List (Nat×(Env->WP))->(Env->WP)->WP
 | .skip,ρ,KN,_,_=>KN ρ
 | .label _,ρ,KN,_,_=>KN ρ
 | .region _ ops false,ρ,KN,_,_=>QKT P N ops.toList (ops.toList.length+1) [] ops.toList ρ KN
 | .region _ ops true,ρ,KN,_,_=>QD5 (e ops.toList ρ KN)
 | .seq a b,ρ,KN,KX,KR=>wpC P N dp e a ρ (fun d=>wpC P N dp e b d KN KX KR) KX KR
 | .cond c a b,ρ,KN,KX,KR=>bif QNX ρ c then (match ev ρ c with
  | .bool x=>bif QLf a&&QLf b then
    (QhY ρ 0 fun M=>fNs (wr2 M b (wr2 M a [])) fun f=>
     fNs (QFf dp f) fun cs=>
     fSs (cs.map fun t=>QcH (gv ρ t)) fun ss=>
     QBW ss (fun K=>XIf x (wpC P N dp e a ρ (fun d=>bif QHH d cs then Cur.appV ss K (cs.map (gv d)) else bad) KX KR)
       (wpC P N dp e b ρ (fun d=>bif QHH d cs then Cur.appV ss K (cs.map (gv d)) else bad) KX KR))
      (Cur.of ss fun vs=>fE (QOB cs vs (QKF f ρ)) KN))
   else XIf x (wpC P N dp e a ρ KN KX KR) (wpC P N dp e b ρ KN KX KR)
  | _=>bad) else bad
 | .block id b,ρ,KN,KX,KR=>
  bif Nat.blt 1 ((bif QLf b then 1 else 0)+QOM id b) then
   (QhY ρ 0 fun M=>fNs (wr2 M b []) fun f=>
    fNs (QFf dp f) fun cs=>
    fSs (cs.map fun t=>QcH (gv ρ t)) fun ss=>
    QBW ss (fun K=>wpC P N dp e b ρ (fun d=>bif QHH d cs then Cur.appV ss K (cs.map (gv d)) else bad)
      ((id,fun d=>bif QHH d cs then Cur.appV ss K (cs.map (gv d)) else bad)::KX) KR)
     (Cur.of ss fun vs=>fE (QOB cs vs (QKF f ρ)) KN))
  else wpC P N dp e b ρ KN ((id,KN)::KX) KR
 | .loop b,ρ,_,KX,KR=>
  QhY ρ 0 fun M=>fNs (wr2 M b []) fun f=>
  fNs (QFf dp f) fun cs=>
  fSs (cs.map fun t=>QcH (gv ρ t)) fun ss=>
  bif QHH ρ cs then
   Cur.appV ss (QFl ss fun K=>Cur.of ss fun vs=>fE (QOB cs vs (QKF f ρ)) fun ρ=>wpC P N dp e b ρ (fun d=>bif QHH d cs then Cur.appV ss K (cs.map (gv d)) else bad) KX KR) (cs.map (gv ρ))
  else bad
 | .exit id,ρ,_,KX,_=>QgU id KX ρ
 | .scope b,ρ,KN,KX,KR=>wpC P N dp e b ρ KN KX KR
 | .ret,ρ,_,_,KR=>KR ρ
 | _,_,_,_,_=>bad
def Qdu(P:Program)(ty:TypeId)(v:Value):Option Ad:=
 bif QBy P ty then (match v with|.agg cs=>bif Nat.beq cs.toList.length (QBm P 20 ty).length then some cs.toList else none|_=>none) else some [v]
def QIq(P:Program):List (ResultVar×TypeId)->Env->Ad->(Ad->WP)->WP
 | [],_,acc,K=>K acc
 | (.tmp t,ty)::r,ρ,acc,K=>bif has ρ t then (match Qdu P ty (gv ρ t) with
  | some vs=>QIq P r ρ (acc++vs) K
  | none=>bad) else bad
 | (.cell t u,ty)::r,ρ,acc,K=>bif has ρ t&&Nat.beq u ty then (match gv ρ t with
  | .pointer (some a)=>bif QBy P ty then
    (match QIU P ty with|some n=>bif Nat.beq n (QBm P 20 ty).length then QGd (QBm P 20 ty) a 0 [] fun vs=>QIq P r ρ (acc++vs) K else bad|none=>bad)
   else (match QBm P 20 ty with
    | [s]=>fSh s fun s=>QAn s a fun x=>QIq P r ρ (acc++[s.mk x]) K
    | _=>bad)
  | _=>bad) else bad
def QAW(P:Program):List TypeId->Rs×List Sh
 | [t]=>bif QBy P t then (.agg,QBm P 20 t) else (.one,QBm P 20 t)
 | ts=>(.tup (ts.map fun u=>bif QBy P u then some (QBm P 20 u).length else none),ts.flatMap fun u=>QBm P 20 u)
def QKd:Ad->Nat->Env
 | [],_=>[]
 | v::vs,i=>(i,v)::QKd vs (i+1)
def wpF[Pan](P:Program)(dp:Af)(b:Nat->List Oper->Env->(Env->WP)->WP)(fn:Func)(args:Ad)(ss:List Sh)(R:Cur ss):WP:=
 match fn.body with
 | some c=>
  let a:Env->WP:=fun ρ=>QIq P (fn.results.toList.zip fn.resultTypes.toList) ρ [] fun vs=>Cur.appV ss R vs
  bif Nat.beq fn.results.toList.length fn.resultTypes.toList.length&&Nat.ble args.length fn.ntmps then wpC P fn.ntmps dp (b fn.ntmps) c (QKd args 0) a [] a else bad
 | none=>bad
section
variable {P:Program}{rn:Option Nat}{dl:List Deferred}
theorem QSK{o:Oper}{ρ:Operand->Value}{v:Value}{w w':World}(h:(execOp ρ o).run P w=.ok (.value v) w'):∀c,o.op≠.defer c:=by
 intro c e;obtain⟨dst,op,b,pos,f,guard⟩:=o;simp only at e;subst e;simp only[execOp,Sem.run_bind]at h
 cases a:(resolve ρ c b).run P w with
 | ok d w'=>rw[a]at h;simp only[Result.andThen_ok,Sem.run_pure]at h;cases h
 | halt x w'=>rw[a]at h;cases h
def wpL(rn:Option Nat)(P:Program)(ops:Array Oper)(Q:Exit->Act->World->Prop):List Oper->(Act->World->Prop)->Act->World->Prop
 | [],K,a,w=>K a w
 | o::os,K,a,w=>if Region.wanted o (yielded ops a.tmps) then o.wpIn (FF rn) 0 P a w (wpL rn P ops Q os K) Q else wpL rn P ops Q os K (a.put o.dst undef) w
theorem QRh{ops:Array Oper}{Q:Exit->Act->World->Prop}(l:List Oper):∀k,(∀j,l[j]? = ops[k+j]?\/l.length<=j)->∀a w,wpL rn P ops Q l (Q .normal) a w ->
  wpOpsIn (FF rn) 0 P ops Q (List.range' k l.length) a w:=by
 induction l with
 | nil=>intro k _ a w h;exact h
 | cons o os ih=>
  intro k c a w h
  have h0:ops[k]? = some o:=by
   rcases c 0 with h|h
   ·simpa using h.symm
   ·simp at h
  have d:∀j,os[j]? = ops[k+1+j]?\/os.length<=j:=fun j=>by
   rcases c (j+1) with h|h
   ·left;simpa [Ln,Nat.add_comm 1 j]using h
   ·right;simp at h;omega
  simp only[Wl,List.range'_succ,wpOpsIn,h0];simp only[wpL]at h;split at h
  ·rename_i b
   rw[We b];exact Oper.wpIn_mono (fun a w h=>ih (k+1) d a w h) h
  ·rename_i b
   rw[Wb b];exact⟨fun _ _=>trivial,ih (k+1) d _ _ h⟩
theorem QXo{ops:Array Oper}{Q:Exit->Act->World->Prop}(l l':List Oper)(K:Act->World->Prop):wpL rn P ops Q (l++l') K=wpL rn P ops Q l (wpL rn P ops Q l' K):=by
 induction l with
 | nil=>rfl
 | cons o os ih=>funext a w;simp only[Ul,wpL,ih]
theorem QOj{N:Nat}{ops:Array Oper}{ρ:Env}{a:Act}(g:Fits N dl ρ a){j d:Nat}{x:Bool}(b:QGq ops.toList j=some d)(h:has ρ d=true)(hv:gv ρ d=.bool x) :
  yielded ops a.tmps j=some x:=by
 unfold QGq at b;have e:=g.get d h
 cases c:ops.toList[j]? with
 | none=>rw[c]at b;cases b
 | some o=>
  rw[c]at b
  have f:ops[j]? = some o:=Si c
  simp only[yielded,f,Option.bind_some,b,e,hv]
theorem QMC{N:Nat}{ops:Array Oper}{i:Af}{ρ:Env}{a:Act}(k:Fits N dl ρ a){o:Oper}{r:Bool}(h:QVQ ops.toList i ρ o.guard=some r) :
  Region.wanted o (yielded ops a.tmps)=r:=by
 unfold Region.wanted
 cases f:o.guard with
 | none=>rw[f]at h;simp only[QVQ,Wg]at h;rw[<-h]
 | some gb=>
  obtain⟨j,b⟩:=gb;rw[f]at h;simp only[QVQ]at h
  cases g:QB5 j i with
  | false=>rw[g]at h;cases h
  | true=>
   rw[g]at h;simp only[cond_true]at h
   cases c:QGq ops.toList j with
   | none=>rw[c]at h;cases h
   | some d=>
    rw[c]at h;simp only at h
    cases e:has ρ d with
    | false=>rw[e]at h;cases h
    | true=>
     rw[e]at h;simp only[cond_true]at h;cases hv:gv ρ d<;>rw[hv]at h<;>simp only[reduceCtorEq,Wg]at h
     rename_i x
     simp only[QOj k c e hv];cases x<;>cases b<;>simp_all
def Leaves(l:List Oper)(Fr:Act->Prop):Prop:=∀o∈l,∀a v,Fr a->Fr (a.put o.dst v)
theorem Leaves.tail{o:Oper}{l:List Oper}{Fr:Act->Prop}(h:Leaves (o::l) Fr):Leaves l Fr:=fun o' a=>h o' (Wz _ a)
theorem QQS{N:Nat}{ops:Array Oper}{Q:Exit->Act->World->Prop}{Fr:Act->Prop}{j d:Nat}{b:Bool}(J:QGq ops.toList j=some d):∀(l:List Oper) {ρ c:Env}{a:Act}{w:World}{i:Act->World->Prop},QKr P N l ρ=some c->Fits N dl ρ a ->
  (∀o∈l,QDm j b o.guard=true/\o.dst≠some d)->has ρ d=true->gv ρ d=.bool b->Leaves l Fr->Fr a ->
  (∀s,Fits N dl c s->has c d=true->gv c d=.bool b->Fr s->i s w)->wpL rn P ops Q l i a w:=by
 intro l
 induction l with
 | nil=>
  intro ρ c a w i h f _ g hv _ hfr p;simp only[QKr,Wg]at h;subst h;exact p a f g hv hfr
 | cons o os ih=>
  intro ρ c a w i h f u g hv hl hfr p;simp only[QKr,QXG,Qh6]at h
  cases k:QTv N ρ o with
  | false=>rw[k]at h;cases h
  | true=>
  rw[k]at h;simp only[cond_true]at h
  cases m:QA5 P (execOp (ev ρ) o) with
  | none=>rw[m]at h;cases h
  | some n=>
   rw[m]at h;cases n<;>simp only[reduceCtorEq]at h
   rename_i v
   obtain⟨q,y⟩:=u o (W5 ..);have F:=QOj f J g hv
   have G:Region.wanted o (yielded ops a.tmps)=true:=by
    cases r:o.guard with
    | none=>simp[Region.wanted,r]
    | some jb=>
     obtain⟨K,D⟩:=jb;rw[r]at q;simp only[QDm,Wf]at q;have hj:=Wo q.1;subst hj;simp only[Region.wanted,r,F];cases b<;>cases D<;>simp_all
   simp only[wpL,G,O7];simp only[QTv,Wf,Ot]at k;obtain⟨⟨E,z⟩,A⟩:=k
   have he:execOp a.eval o=execOp (ev ρ) o:=
    execOp_congr _ (fun cs b e=>by rw[e]at A;simp at A) fun x hx=>f.eval (E x (Si hx))
   refine QIF (QSK (QJF _ _ m w)) ?_;unfold Oper.wp;rw[he,QJF _ _ m w]
   have H:∀t,o.dst=some t->t<N:=fun t e=>by rw[e]at z;simpa [K6]using z
   refine ih h (f.put H) (fun o' C=>u o' (Wz _ C)) ?_ ?_ hl.tail (hl o (W5 ..) _ _ hfr) p
   ·cases B:o.dst with
    | none=>simpa [put]using g
    | some t=>
     simp only[put,QDC,g];cases Nat.beq t d<;>rfl
   ·cases B:o.dst with
    | none=>simpa [put]using hv
    | some t=>
     have I:Nat.beq t d=false:=by
      cases hb:Nat.beq t d with
      | false=>rfl
      | true=>rw[B,Wo hb]at y;exact absurd rfl y
     simp only[put,QCv,I,cond_false,hv]
theorem QBg{t:Nat}{l:Af}:QB5 t l=true↔t∈l:=by
 induction l with
 | nil=>simp[QB5]
 | cons u r ih=>
  simp only[QB5]
  cases hb:Nat.beq u t with
  | true=>have:=Wo hb;simp[this]
  | false=>
   have:u≠t:=fun e=>by subst e;simp at hb
   simp only[cond_false,ih,W7];constructor
   ·exact fun h=>.inr h
   ·rintro (h|h)
    ·exact absurd h.symm this
    ·exact h
theorem QP2{N j d:Nat}{b:Bool}{ops:Array Oper}{Q:Exit->Act->World->Prop}{Fr:Act->Prop}(r:QGq ops.toList j=some d):∀(l:List Oper) (n:Af) {ρ:Env}{a:Act}{w:World}{s:Act->World->Prop},
  QKk ops.toList N j d b l n=true->QOk ρ l=true->Fits N dl ρ a->a.tmps[d]? = some (.bool !b)->(∀t∈n,a.tmps[t]? = some undef)->Leaves l Fr->Fr a ->
  (∀E,Fits N dl ρ E->Fr E->s E w)->wpL rn P ops Q l s a w:=by
 intro l
 induction l with
 | nil=>intro n ρ a w s _ _ g _ _ _ hfr v;exact v a g hfr
 | cons o os ih=>
  intro n ρ a w s h q g hv y hl hfr v;have x:=hl o (W5 ..) a undef hfr;simp only[QKk,Wf,Oz]at h;obtain⟨⟨c,z⟩,h⟩:=h;simp only[QOk,Wf]at q;obtain⟨A,q⟩:=q
  have G:Region.wanted o (yielded ops a.tmps)=false:=by
   rcases c with c|c
   ·cases i:o.guard with
    | none=>rw[i]at c;simp[QDm]at c
    | some jb=>
     obtain⟨f,F⟩:=jb;rw[i]at c;simp only[QDm,Wf]at c;obtain⟨hj,hb⟩:=c;have hj:=Wo hj;subst hj;unfold QGq at r
     cases k:ops.toList[f]? with
     | none=>rw[k]at r;cases r
     | some oj=>
      rw[k]at r
      have B:ops[f]? = some oj:=Si k
      have C:yielded ops a.tmps f=some !b:=by simp[yielded,B,r,hv]
      simp only[Region.wanted,i,C];cases b<;>cases F<;>simp_all
   ·cases i:o.guard with
    | none=>rw[i]at c;cases c
    | some jb=>
     obtain⟨f,F⟩:=jb;rw[i]at c;simp only at c
     cases m:QGq ops.toList f with
     | none=>rw[m]at c;cases c
     | some d'=>
      rw[m]at c;have H:=y d' (QBg.1 c);unfold QGq at m
      cases k:ops.toList[f]? with
      | none=>rw[k]at m;cases m
      | some oj=>
       rw[k]at m
       have B:ops[f]? = some oj:=Si k
       have C:yielded ops a.tmps f=none:=by simp[yielded,B,m,H,undef]
       simp[Region.wanted,i,C]
  simp only[wpL,G,Wi,Oa]
  cases D:o.dst with
  | none=>
   rw[D]at h;rw[D]at x;exact ih n h q g hv y hl.tail x v
  | some t=>
   rw[D]at h z A x;simp only[Wf,K6,W2]at z A
   have I:t≠d:=fun e=>by subst e;simp at z
   refine ih (t::n) h q ⟨by simpa [Act.put]using g.size,g.defs,fun u p=>?_⟩ ?_ ?_ hl.tail x v
   ·have:t≠u:=fun e=>by subst e;rw[A]at p;cases p
    simp only[Act.put];rw[Oj this];exact g.get u p
   ·simp only[Act.put];rw[Oj I];exact hv
   ·intro u p;simp only[Act.put];by_cases e:t=u
    ·subst e;rw[Uj (by have:=g.size;omega)]
    ·rw[Oj e];exact y u (by simpa [Ne.symm e]using p)
theorem Fits.cons{N:Nat}{ρ:Env}{a:Act}(c:Fits N dl ρ a){d:Nat}{v:Value}(h:a.tmps[d]? = some v):Fits N dl ((d,v)::ρ) a:=
 ⟨c.size,c.defs,fun t b=>by
  rw[QDC]at b;rw[QCv]
  cases hb:Nat.beq d t with
  | true=>rw[<-Wo hb];exact h
  | false=>rw[hb]at b;exact c.get t b⟩
theorem Qfx{N:Nat}{ops:Array Oper}{Q:Exit->Act->World->Prop}{ρ:Env}{a:Act}{w:World}{p:Oper}{d:Nat}{x:Bool}{b f:Operand}{g:Act->World->Prop}{j:Af}{rest:List Oper}
  (h:p.op=.pick (.tmp d) b f) (k:Fits N dl ρ a) (hv:a.tmps[d]? = some (.bool x)) (l:QVQ ops.toList j ρ p.guard=some true)
  (v:Value) (m:(if x then a.eval b else a.eval f)=v) (n:wpL rn P ops Q rest g (a.put p.dst v) w):wpL rn P ops Q (p::rest) g a w:=by
 simp only[wpL,QMC k l,O7]
 have hx:a.eval (.tmp d)=.bool x:=by simp[Act.eval,O4,hv]
 have i:(execOp a.eval p).run P w=.ok (.value v) w:=by
  simp only[execOp,h,hx,asBool,Sem.run_bind,Sem.run_pure,Result.andThen_ok,m]
 refine QIF (fun c e=>by rw[h]at e;cases e) ?_;unfold Oper.wp;rw[i];exact n
theorem QRk{x:Operand}(h:QGh x=true)(a:Act)(ρ:Env):a.eval x=ev ρ x:=by
 cases x<;>first|rfl|(simp[QGh]at h)
theorem QL5{sh:Sh}{k:Cur [sh]}{v:Value}{w:World}(h:Cur.appV [sh] k [v] w):∃x,sh.mk x=v/\k x w:=by
 obtain⟨t,a,h⟩:=Cur.appV_app _ _ _ _ h;exact⟨t.1,by simpa [Tup.vals]using a,h⟩
theorem QQA{N:Nat}{ρ:Env}:∀{l:List Oper},QOk ρ l=true->Leaves l (Fits N dl ρ):=by
 intro l h o b a v c
 induction l with
 | nil=>cases b
 | cons o' os ih=>
  simp only[QOk,Wf]at h;rcases W7.1 b with e|b
  ·subst e
   cases f:o.dst with
   | none=>exact c
   | some t=>
    have h1:=h.1;rw[f]at h1;simp only[W2]at h1;refine⟨by simpa [Act.put]using c.size,c.defs,fun u d=>?_⟩
    have:t≠u:=fun e=>by subst e;rw[h1]at d;cases d
    simp only[Act.put];rw[Oj this];exact c.get u d
  ·exact ih h.2 b
theorem Leaves.and{l:List Oper}{A B:Act->Prop}(h:Leaves l A)(k:Leaves l B):Leaves l fun a=>A a/\B a:=fun o b a v c=>⟨h o b a v c.1,k o b a v c.2⟩
theorem Leaves.left{l l':List Oper}{A:Act->Prop}(h:Leaves (l++l') A):Leaves l A:=fun o a=>h o (Zp _ a)
theorem Leaves.right{l l':List Oper}{A:Act->Prop}(h:Leaves (l++l') A):Leaves l' A:=fun o a=>h o (Us _ a)
theorem QUX{ops:List Oper}{N j d:Nat}{b:Bool}:∀{l:List Oper}{c:Af},QKk ops N j d b l c=true->∀o∈l,o.dst≠some d:=by
 intro l
 induction l with
 | nil=>intro c _ o a;cases a
 | cons o' os ih=>
  intro c h o a;simp only[QKk,Wf]at h;rcases W7.1 a with e|a
  ·subst e;intro e;have:=h.1.2;rw[e]at this;simp at this
  ·exact ih h.2 o a
def PanQ[Pan](dl:List Deferred)(Fr:Act->Prop)(Q:Exit->Act->World->Prop):Prop:=∀(a:Act) (w:World),a.defers=dl->Fr a->Pan.q w->Q (.panic Pan.ch) a w
theorem PanQ.of[Pan]{dl:List Deferred}{Fr b:Act->Prop}{Q:Exit->Act->World->Prop}(h:PanQ dl Fr Q)(k:∀a,b a->Fr a):PanQ dl b Q:=fun a w c d e=>h a w c (k a d) e
set_option maxHeartbeats 1000000 in
theorem QVK[Pan](hn:QHG P){N:Nat}{ops:Array Oper}{Q:Exit->Act->World->Prop}:∀(f:Nat) (q:Af) (l:List Oper) {Fr:Act->Prop}{ρ:Env}{K:Env->WP}{a:Act}{w:World}{z:Act->World->Prop},
  PanQ dl Fr Q->QKT P N ops.toList f q l ρ K w->Fits N dl ρ a->Leaves l Fr->Fr a->(∀D c w',Fits N dl D c->Fr c->K D w'->z c w')->wpL rn P ops Q l z a w:=by
 intro f
 induction f with
 | zero=>
  intro q l Fr ρ K a w z A h m _ hfr E
  cases l with
  | nil=>exact E _ _ _ m hfr h
  | cons o os=>exact h.elim
 | succ f ih=>
  intro q l Fr ρ K a w z A h m s hfr E
  cases l with
  | nil=>exact E _ _ _ m hfr h
  | cons o os=>
  simp only[QKT]at h
  cases Y:QVQ ops.toList q ρ o.guard with
  | some r=>
   rw[Y]at h;have a7:=QMC m Y
   cases r with
   | true=>
    obtain⟨F,h⟩:=QAG h
    have b0:∀t,o.dst=some t->t<N:=fun t e=>by
     simp only[QTv,Wf]at F;have:=F.1.2;rw[e]at this;simpa [K6]using this
    simp only[wpL,a7,O7];exact QUI hn (fun w' H=>A a w' m.defs hfr H) m F h fun v w' i=>ih q os A i (m.put b0) s.tail (s o (W5 ..) _ _ hfr) E
   | false=>
    obtain⟨B,h⟩:=QAG h;simp only[wpL,a7,Wi,Oa];rw[QCJ]at h;refine ih q os A h (m.put fun t e=>?_) s.tail (s o (W5 ..) _ _ hfr) E;rw[e]at B;simpa [K6]using B
  | none=>
   rw[Y]at h
   cases a8:o.guard with
   | none=>rw[a8]at h;exact h.elim
   | some jb=>
   obtain⟨j,b⟩:=jb;rw[a8]at h;simp only at h
   cases B:QGq ops.toList j with
   | none=>rw[B]at h;exact h.elim
   | some d=>
   rw[B]at h;simp only at h
   cases O:has ρ d with
   | false=>rw[O]at h;exact h.elim
   | true=>
   rw[O]at h;cases hv:gv ρ d <;> (try (rw[hv]at h;exact h.elim))
   rename_i x
   rw[hv]at h
   cases Z:QDq d (o::os) with
   | none=>rw[Z]at h;exact h.elim
   | some t=>
   obtain⟨g,p,r⟩:=t;rw[Z]at h;simp only at h;obtain⟨hl,I,J,a3⟩:=QTO Z
   have b1:QVU p=(I,J):=by simp[QVU,a3]
   rw[b1]at h;simp only at h;obtain⟨F,h⟩:=QAG h;simp only[Wf,W2]at F;obtain⟨⟨⟨⟨a4,a5⟩,a6⟩,T⟩,_⟩:=F
   have b2:QVQ ops.toList q ρ p.guard=some true:=by
    cases H:QVQ ops.toList q ρ p.guard with
    | none=>rw[H]at T;cases T
    | some u=>rw[H]at T;cases u<;>simp_all
   have b3:∀t,p.dst=some t->t<N:=fun t e=>by
    simp only[QTv,Wf]at a6;have:=a6.1.2;rw[e]at this;simpa [K6]using this
   have L:a.tmps[d]? = some (.bool x):=by rw[<-hv];exact m.get d O
   rw[hl]at s|-;rw[QXo];have W:Leaves g fun a=>Fr a/\Fits N dl ρ a:=s.left.and (QQA a5);have b4:Leaves r Fr:=s.right.tail;have b5:∀a v,Fr a->Fr (a.put p.dst v):=s.right p (W5 ..)
   -- behind the group: the pick, and the rest
   have rest:∀(c:Act) (w':World) (v:Value),Fits N dl ρ c->Fr c->(if x then c.eval I else c.eval J)=v->QKT P N ops.toList f q r (put ρ p.dst v) K w'->wpL rn P ops Q (p::r) z c w':=by
    intro c w' v n k a9 i
    have b6:c.tmps[d]? = some (.bool x):=by rw[<-hv];exact n.get d O
    exact Qfx a3 n b6 b2 v a9 (ih q r A i (n.put b3) b4 (b5 _ _ k) E)
   have M:x = !b->QGh (if x then I else J)=true->QKT P N ops.toList f q r (put ρ p.dst (if x then ev ρ I else ev ρ J)) K w->wpL rn P ops Q g (wpL rn P ops Q (p::r) z) a w:=by
    intro S hc i
    have b7:a.tmps[d]? = some (.bool !b):=by rw[L,S]
    refine QP2 (Fr:=Fr) B g [] a4 a5 m b7 (fun t G=>by cases G) s.left hfr fun c n k=>?_;refine rest c w _ n k ?_ i;cases x<;>simp only[Wi,Oa,O7]at hc|- <;> exact QRk hc c ρ
   cases a0:g.all (fun o=>QZ6 P o&&QDm j b o.guard) with
   | true=>
    rw[a0]at h;simp only[cond_true]at h
    cases a1:QKr P N g ((d,.bool b)::ρ) with
    | none=>rw[a1]at h;exact h.elim
    | some D=>
    rw[a1]at h
    have b8:∀o∈g,QDm j b o.guard=true/\o.dst≠some d:=fun o a2=>by
     have:=(Ot.1 a0) o a2;simp only[Wf]at this;exact⟨this.2,QUX a4 o a2⟩
    have run:x=b->(∀c,Fits N dl D c->Fits N dl ρ c->Fr c->wpL rn P ops Q (p::r) z c w)->wpL rn P ops Q g (wpL rn P ops Q (p::r) z) a w:=by
     intro S a';subst S;refine QQS (Fr:=fun a=>Fr a/\Fits N dl ρ a) B g a1 (m.cons L) b8 (by simp[QDC]) (by simp[QCv]) W ⟨hfr,m⟩ fun c n _ _ k=>a' c n k.2 k.1
    cases b with
    | true=>
     obtain⟨hc,h⟩:=QAG h;simp only[Wf]at hc;simp only[QCJ,QPz,QQz]at h
     cases x with
     | true=>exact run rfl fun c n R k=>rest c w _ R k (by rw[We rfl];exact n.eval hc.2) h
     | false=>exact M rfl hc.1 h
    | false=>
     obtain⟨hc,h⟩:=QAG h;simp only[Wf]at hc;simp only[QCJ,QPz,QQz]at h
     cases x with
     | true=>exact M rfl hc.1 h
     | false=>exact run rfl fun c n R k=>rest c w _ R k (by rw[Wb Zl];exact n.eval hc.2) h
   | false=>
    rw[a0]at h;simp only[cond_false]at h
    cases b with
    | true=>
     obtain⟨hc,h⟩:=QAG h;simp only[QBj,QCJ]at h;obtain⟨G,U⟩:=h
     cases x with
     | false=>
      obtain⟨y,C,i⟩:=QL5 (U rfl);refine M rfl hc ?_;simp only[Cur.of,C,List.headD_cons]at i;exact i
     | true=>
      refine ih (j::q) g (A.of fun _ h=>h.1) (G rfl) (m.cons L) W ⟨hfr,m⟩ fun D c w' n k i=>?_;obtain⟨hb,i⟩:=QAG i;simp only[Wf]at hb;obtain⟨y,C,i⟩:=QL5 i;simp only[Cur.of,C,List.headD_cons]at i;exact rest c w' _ k.2 k.1 (by rw[We rfl];exact n.eval hb.1.1) i
    | false=>
     obtain⟨hc,h⟩:=QAG h;simp only[QBj,QCJ]at h;obtain⟨G,U⟩:=h
     cases x with
     | true=>
      obtain⟨y,C,i⟩:=QL5 (G rfl);refine M rfl hc ?_;simp only[Cur.of,C,List.headD_cons]at i;exact i
     | false=>
      refine ih (j::q) g (A.of fun _ h=>h.1) (U rfl) (m.cons L) W ⟨hfr,m⟩ fun D c w' n k i=>?_;obtain⟨hb,i⟩:=QAG i;simp only[Wf]at hb;obtain⟨y,C,i⟩:=QL5 i;simp only[Cur.of,C,List.headD_cons]at i;exact rest c w' _ k.2 k.1 (by rw[Wb Zl];exact n.eval hb.1.1) i
end
end Go.Cf
namespace Go.Cf
open Go
section
variable {P:Program}{rn:Option Nat}{dl:List Deferred}
def LeavesC:Code->(Act->Prop)->Prop
 | .region _ ops _,Fr=>Leaves ops.toList Fr
 | .seq a b,Fr=>LeavesC a Fr/\LeavesC b Fr
 | .cond _ a b,Fr=>LeavesC a Fr/\LeavesC b Fr
 | .block _ b,Fr=>LeavesC b Fr
 | .scope b,Fr=>LeavesC b Fr
 | .loop b,Fr=>LeavesC b Fr
 | _,_=>True
theorem LeavesC.and{A B:Act->Prop}:∀{c:Code},LeavesC c A->LeavesC c B->LeavesC c fun a=>A a/\B a:=by
 intro c
 induction c with
 | region _ ops _=>exact fun h k=>Leaves.and h k
 | seq a b iha ihb=>exact fun h k=>⟨iha h.1 k.1,ihb h.2 k.2⟩
 | cond _ a b iha ihb=>exact fun h k=>⟨iha h.1 k.1,ihb h.2 k.2⟩
 | block _ b ih=>exact fun h k=>ih h k
 | scope b ih=>exact fun h k=>ih h k
 | loop b ih=>exact fun h k=>ih h k
 | _=>exact fun _ _=>trivial
structure Keep(N:Nat)(dl:List Deferred)(ρ:Env)(cs:Af)(a:Act):Prop where
 size:N<=a.tmps.size
 defs:a.defers=dl
 get:∀t,has ρ t=true->QB5 t cs=false->a.tmps[t]? = some (gv ρ t)
theorem QS9{t u:Nat}{l:Af}:QB5 t (Qgp u l)=true↔t=u\/QB5 t l=true:=by
 unfold Qgp
 cases h:QB5 u l with
 | true=>
  simp only[cond_true];constructor
  ·exact .inr
  ·rintro (rfl|a)
   ·exact h
   ·exact a
 | false=>
  simp only[cond_false];rw[QBg,QBg,W4,Oe];exact⟨fun h=>h.symm,fun h=>h.symm⟩
theorem QKl{t:Nat}:∀(l:List Oper) (a:Af),QB5 t (QIY l a)=true↔QB5 t a=true\/∃o∈l,o.dst=some t:=by
 intro l
 induction l with
 | nil=>intro a;simp[QIY]
 | cons o os ih=>
  intro a;unfold QIY;rw[ih]
  cases b:o.dst with
  | none=>simp[b]
  | some u=>
   simp only[QS9,W7,exists_eq_or_imp,b,Wg];constructor
   ·rintro ((rfl|h)|h)
    ·exact .inr (.inl rfl)
    ·exact .inl h
    ·exact .inr (.inr h)
   ·rintro (h|rfl|h)
    ·exact .inl (.inr h)
    ·exact .inl (.inl rfl)
    ·exact .inr h
theorem QVa{ρ:Env}{t:Nat}:∀(c:Code) (d:Af),QB5 t d=true->QB5 t (wr ρ c d)=true:=by
 intro c
 induction c with
 | region _ ops _=>exact fun d h=>(QKl _ _).2 (.inl h)
 | seq a b iha ihb=>exact fun d h=>ihb _ (iha _ h)
 | cond _ a b iha ihb=>exact fun d h=>ihb _ (iha _ h)
 | block _ b ih=>exact fun d h=>ih _ h
 | scope b ih=>exact fun d h=>ih _ h
 | loop b ih=>exact fun d h=>ih _ h
 | _=>exact fun d h=>h
theorem QHL{N:Nat}{ρ:Env}{cs:Af}:∀(c:Code) (d:Af),(∀t,QB5 t (wr ρ c d)=true->QB5 t cs=true)->LeavesC c (Keep N dl ρ cs):=by
 intro c
 induction c with
 | region _ ops _=>
  intro d h o l a v f
  cases k:o.dst with
  | none=>exact f
  | some t=>
   refine⟨by simpa [Act.put]using f.size,f.defs,fun u j g=>?_⟩
   have m:t≠u:=by
    intro e;subst e;have:=h t ((QKl _ _).2 (.inr ⟨o,by simp only[Up];exact⟨l,by rw[k];exact j⟩,k⟩));rw[this]at g;cases g
   simp only[Act.put];rw[Oj m];exact f.get u j g
 | seq a b iha ihb=>exact fun d h=>⟨iha d fun t i=>h t (QVa b _ i),ihb _ h⟩
 | cond _ a b iha ihb=>exact fun d h=>⟨iha d fun t i=>h t (QVa b _ i),ihb _ h⟩
 | block _ b ih=>exact fun d h=>ih d h
 | scope b ih=>exact fun d h=>ih d h
 | loop b ih=>exact fun d h=>ih d h
 | _=>exact fun _ _=>trivial
theorem QRX{ρ:Env}{t:Nat}:∀(cs:Af) (vs:Ad),QB5 t cs=false->has (QOB cs vs ρ) t=has ρ t/\gv (QOB cs vs ρ) t=gv ρ t:=by
 intro cs
 induction cs with
 | nil=>intro vs _;cases vs<;>exact⟨rfl,rfl⟩
 | cons c cs ih=>
  intro vs h
  cases vs with
  | nil=>exact⟨rfl,rfl⟩
  | cons v vs=>
   simp only[QB5]at h
   cases hb:Nat.beq c t with
   | true=>rw[hb]at h;cases h
   | false=>
    rw[hb]at h;simp only[QOB,QDC,QCv,hb,cond_false];exact ih vs h
theorem QZT{ρ:Env}{f:Nat->Value}{t:Nat}:∀(cs:Af),QB5 t cs=true->gv (QOB cs (cs.map f) ρ) t=f t:=by
 intro cs
 induction cs with
 | nil=>intro h;cases h
 | cons c cs ih=>
  intro h;simp only[U9,QOB,QCv]
  cases hb:Nat.beq c t with
  | true=>rw[Wo hb];rfl
  | false=>
   simp only[QB5,hb,cond_false]at h;exact ih h
theorem QbI{b:Af}{t:Nat}:∀{ρ:Env},has (QKF b ρ) t=true->QB5 t b=false/\has ρ t=true/\gv (QKF b ρ) t=gv ρ t:=by
 intro ρ
 induction ρ with
 | nil=>intro h;cases h
 | cons p ρ ih=>
  obtain⟨u,v⟩:=p;intro h;simp only[QKF]at h|-
  cases a:QB5 u b with
  | true=>
   rw[a]at h;simp only[cond_true]at h|-;obtain⟨h1,d,e⟩:=ih h
   have c:Nat.beq u t=false:=by
    cases hb:Nat.beq u t with
    | false=>rfl
    | true=>rw[Wo hb]at a;rw[a]at h1;cases h1
   exact⟨h1,by simp only[QDC,c,cond_false,d],by simp only[QCv,c,cond_false,e]⟩
  | false=>
   rw[a]at h;simp only[cond_false,QDC,QCv]at h|-
   cases hb:Nat.beq u t with
   | true=>rw[Wo hb]at a;exact⟨a,rfl,rfl⟩
   | false=>
    rw[hb]at h;exact ih h
theorem Keep.fits{N:Nat}{ρ:Env}{c:Af}{a:Act}(d:Keep N dl ρ c a)(cs:Af)(f:Nat->Value)(k:∀t,QB5 t cs=true->a.tmps[t]? = some (f t)):Fits N dl (QOB cs (cs.map f) (QKF c ρ)) a:=
 ⟨d.size,d.defs,fun t e=>by
  cases b:QB5 t cs with
  | true=>rw[QZT cs b];exact k t b
  | false=>
   obtain⟨h1,g⟩:=QRX (ρ:=QKF c ρ) cs (cs.map f) b;rw[h1]at e;obtain⟨h,i,j⟩:=QbI e;rw[g,j]
   exact d.get t i h⟩
theorem QFs{N:Nat}{ρ:Env}{cs:Af}{a:Act}(c:Fits N dl ρ a)(h:QHH ρ cs=true):∀t,QB5 t cs=true->a.tmps[t]? = some (gv ρ t):=fun t b=>
 c.get t (Ot.1 h t (QBg.1 b))
theorem Fits.keep{N:Nat}{ρ:Env}{a:Act}(b:Fits N dl ρ a)(cs:Af):Keep N dl ρ cs a:=⟨b.size,b.defs,fun t c _=>b.get t c⟩
theorem QIg{F:Fence}{n:Nat}{c:Code}{Q:Exit->Act->World->Prop}{a:Act}{w:World}(h:c.wpIn F n P (Exit.noGoto Q) a w):(Code.scope c).wpIn F n P Q a w:=by
 intro b k cs p hb g;have q:∀(a:Act) (k:List Item) (w:World),step P (lone (b.atR a (.code (.scope c)::k)) cs w)=.next (lone (b.atR a (.code c :: .inScope c::k)) cs w):=fun a k w=>step_lone_go (by simp[stepG,stepG.exec,Frame.atR]);have r:∀(a:Act) (k:List Item) (w:World),step P (lone (b.atR a (.inScope c::k)) cs w)=.next (lone (b.atR a k) cs w):=fun a k w=>step_lone_go (by simp[stepG,stepG.exec,Frame.atR]);obtain⟨e,i,j,d,f⟩:=h b (.inScope c::k) cs p hb g;have st:StepsIn (Machine.fenced P F) P (lone (b.atR a (.code (.scope c)::k)) cs w) (lone (b.atR a (.code c :: .inScope c::k)) cs w):=.one (fenced_calm hb g rfl) (q _ _ _)
 cases e with
 | normal=>exact⟨.normal,i,j,d,StepsIn.trans st (StepsIn.trans f (.one (fenced_calm hb g rfl) (r _ _ _)))⟩
 | exit id=>exact⟨.exit id,i,j,d,ArrivesIn.of_steps (e:=.exit id) st ⟨fun o m=>f.1 o (by simp[exitTo,m]),fun g m=>f.2 g (by simp[exitTo,m])⟩⟩
 | goto l=>exact d.elim
 | ret=>exact⟨_,i,j,d,.of_steps st f⟩
 | panic ch=>exact⟨_,i,j,d,.of_steps st f⟩
 | outgrown=>exact⟨_,i,j,d,.of_steps st f⟩
def QN3[Pan](P:Program)(N:Nat)(e:List Oper->Env->(Env->WP)->WP):Prop:=
 ∀(rn:Option Nat) (dl:List Deferred) (id:Nat) (ops:Array Oper) (Fr:Act->Prop) (ρ:Env) (d:Env->WP) (a:Act) (w:World) (Q:Exit->Act->World->Prop),
  PanQ dl Fr Q->e ops.toList ρ d w.drew->Fits N dl ρ a->Leaves ops.toList Fr->Fr a->(∀c b w',Fits N dl c b->Fr b->d c w'->Q .normal b w')->(Code.region id ops true).wpIn (FF rn) 0 P Q a w
set_option maxHeartbeats 1000000 in
theorem QF3[Pan](hn:QHG P){N:Nat}{dp:Af}{H:List Oper->Env->(Env->WP)->WP}(S:QN3 P N H):∀(c:Code) {Fr:Act->Prop}{ρ:Env}{u A:Env->WP}{B:List (Nat×(Env->WP))}{a:Act}{w:World}{Q:Exit->Act->World->Prop},PanQ dl Fr Q ->
  wpC P N dp H c ρ u B A w->Fits N dl ρ a->LeavesC c Fr->Fr a->(∀k g w',Fits N dl k g->Fr g->u k w'->Q .normal g w') ->
  (∀id k g w',Fits N dl k g->Fr g->QgU id B k w'->Q (.exit id) g w')->(∀k g w',Fits N dl k g->Fr g->A k w'->Q .ret g w')->c.wpIn (FF rn) 0 P Q a w:=by
 intro c
 induction c with
 | skip=>intro Fr ρ u A B a w Q p h d _ hfr q _ _;exact wpIn_skip (q _ _ _ d hfr h)
 | label l=>intro Fr ρ u A B a w Q p h d _ hfr q _ _;exact wpIn_label (q _ _ _ d hfr h)
 | exit id=>intro Fr ρ u A B a w Q p h d _ hfr _ v _;exact wpIn_exit (v _ _ _ _ d hfr h)
 | ret=>intro Fr ρ u A B a w Q p h d _ hfr _ _ z;exact wpIn_ret (z _ _ _ d hfr h)
 | region id ops draw=>
  intro Fr ρ u A B a w Q p h d hl hfr q _ _
  cases draw with
  | true=>exact S rn dl id ops Fr ρ u a w Q p h d hl hfr q
  | false=>
   refine wpIn_region ?_;have:=QRh (P:=P) (rn:=rn) (Q:=Q) (ops:=ops) ops.toList 0 (fun j=>.inl (by simp)) a w (QVK hn _ [] ops.toList p h d hl hfr q);rw[List.range_eq_range'];simpa using this
 | seq x y ihx ihy=>
  intro Fr ρ u A B a w Q p h d hl hfr q v z;exact wpIn_seq (ihx (fun _ _ r d s=>p _ _ r d s) h d hl.1 hfr (fun k g w' o m f=>ihy p f o hl.2 m q v z) v z)
 | cond c x y ihx ihy=>
  intro Fr ρ u A B a w Q p h d hl hfr q v z;obtain⟨hc,h⟩:=QAG h;cases hv:ev ρ c <;> (try (rw[hv]at h;exact h.elim))
  rename_i b
  rw[hv]at h;have he:=d.eval hc;rw[hv]at he;simp only at h
  cases I:(QLf x&&QLf y) with
  | false=>
   rw[I]at h;obtain⟨h1,G⟩:=h;exact wpIn_cond_split he (fun e=>ihx (fun _ _ r d s=>p _ _ r d s) (h1 e) d hl.1 hfr q v z) (fun e=>ihy (fun _ _ r d s=>p _ _ r d s) (G e) d hl.2 hfr q v z)
  | true=>
   rw[I]at h;simp only[cond_true]at h;simp only[QRU,Qb4]at h;simp only[QPM,QBn,QaJ]at h;obtain⟨h1,G⟩:=h;have F:=d.keep (wr ρ y (wr ρ x []));have E:LeavesC x fun a=>Fr a/\Keep N dl ρ (wr ρ y (wr ρ x [])) a:=hl.1.and (QHL x [] fun t C=>QVa y _ C);have R:LeavesC y fun a=>Fr a/\Keep N dl ρ (wr ρ y (wr ρ x [])) a:=hl.2.and (QHL y _ fun t C=>C)
   have key:∀k g w',Fits N dl k g->(Fr g/\Keep N dl ρ (wr ρ y (wr ρ x [])) g) ->
     (bif QHH k (QFf dp (wr ρ y (wr ρ x []))) then Cur.appV ((QFf dp (wr ρ y (wr ρ x []))).map fun t=>QcH (gv ρ t)) (Cur.of ((QFf dp (wr ρ y (wr ρ x []))).map fun t=>QcH (gv ρ t)) fun vs=>u (QOB (QFf dp (wr ρ y (wr ρ x []))) vs (QKF (wr ρ y (wr ρ x [])) ρ))) ((QFf dp (wr ρ y (wr ρ x []))).map (gv k)) else bad) w'->Q .normal g w':=by
    intro k g w' o m f;obtain⟨D,f⟩:=QAG f;obtain⟨t,C,f⟩:=Cur.appV_app _ _ _ _ f;rw[Cur.app_of,C]at f;exact q _ _ _ (m.2.fits _ _ (QFs o D)) m.1 f
   exact wpIn_cond_split he (fun e=>ihx (fun _ _ r d s=>p _ _ r d.1 s) (h1 e) d E ⟨hfr,F⟩ key (fun id k g w' o m f=>v id k g w' o m.1 f) (fun k g w' o m f=>z k g w' o m.1 f))
    (fun e=>ihy (fun _ _ r d s=>p _ _ r d.1 s) (G e) d R ⟨hfr,F⟩ key (fun id k g w' o m f=>v id k g w' o m.1 f) (fun k g w' o m f=>z k g w' o m.1 f))
 | block id c ih=>
  intro Fr ρ u A B a w Q p h d hl hfr q v z;simp only[wpC,QRU,Qb4]at h;simp only[QPM,QBn,QaJ]at h
  cases hb:Nat.blt 1 ((bif QLf c then 1 else 0)+QOM id c) with
  | false=>
   rw[hb]at h;refine wpIn_block (ih (fun _ _ r d s=>p _ _ r d s) h d hl hfr q (fun i k g w' o m f=>?_) z);simp only[Exit.inBlock];simp only[QgU]at f
   cases hi:Nat.beq id i with
   | true=>rw[hi]at f;rw[We (Wo hi).symm];exact q _ _ _ o m f
   | false=>
    rw[hi]at f;rw[Wb fun e=>by subst e;simp at hi];exact v i k g w' o m f
  | true=>
   rw[hb]at h;simp only[cond_true]at h;have E:LeavesC c fun a=>Fr a/\Keep N dl ρ (wr ρ c []) a:=LeavesC.and hl (QHL c [] fun t C=>C)
   have key:∀k g w',Fits N dl k g->(Fr g/\Keep N dl ρ (wr ρ c []) g) ->
     (bif QHH k (QFf dp (wr ρ c [])) then Cur.appV ((QFf dp (wr ρ c [])).map fun t=>QcH (gv ρ t)) (Cur.of ((QFf dp (wr ρ c [])).map fun t=>QcH (gv ρ t)) fun vs=>u (QOB (QFf dp (wr ρ c [])) vs (QKF (wr ρ c []) ρ))) ((QFf dp (wr ρ c [])).map (gv k)) else bad) w'->Q .normal g w':=by
    intro k g w' o m f;obtain⟨D,f⟩:=QAG f;obtain⟨t,C,f⟩:=Cur.appV_app _ _ _ _ f;rw[Cur.app_of,C]at f;exact q _ _ _ (m.2.fits _ _ (QFs o D)) m.1 f
   refine wpIn_block (ih (fun _ _ r d s=>p _ _ r d.1 s) h d E ⟨hfr,d.keep _⟩ key (fun i k g w' o m f=>?_) (fun k g w' o m f=>z k g w' o m.1 f));simp only[Exit.inBlock];simp only[QgU]at f
   cases hi:Nat.beq id i with
   | true=>rw[hi]at f;rw[We (Wo hi).symm];exact key _ _ _ o m f
   | false=>
    rw[hi]at f;rw[Wb fun e=>by subst e;simp at hi];exact v i k g w' o m.1 f
 | loop c ih=>
  intro Fr ρ u A B a w Q p h d hl hfr _ v z;simp only[wpC,QRU,Qb4]at h;simp only[QPM,QBn,QaJ]at h;obtain⟨J,h⟩:=QAG h;obtain⟨t0,L,h⟩:=Cur.appV_app _ _ _ _ h;unfold QFl at h;rw[Cur.app_ofT]at h;obtain⟨n,h⟩:=h;refine wpIn_loop_rounds n ?_;have E:LeavesC c fun a=>Fr a/\Keep N dl ρ (wr ρ c []) a:=LeavesC.and hl (QHL c [] fun t C=>C)
  have key:∀(n:Nat) (t:Tup ((QFf dp (wr ρ c [])).map fun t=>QcH (gv ρ t))) (a:Act) (w:World),Fits N dl (QOB (QFf dp (wr ρ c [])) (Tup.vals _ t) (QKF (wr ρ c []) ρ)) a->Fr a->Keep N dl ρ (wr ρ c []) a ->
    Cur.app _ (QEs ((QFf dp (wr ρ c [])).map fun t=>QcH (gv ρ t)) (fun K=>Cur.of _ fun vs=>wpC P N dp H c (QOB (QFf dp (wr ρ c [])) vs (QKF (wr ρ c []) ρ)) (fun k=>bif QHH k (QFf dp (wr ρ c [])) then Cur.appV _ K ((QFf dp (wr ρ c [])).map (gv k)) else bad) B A) n) t w ->
    Code.roundsIn (FF rn) 0 P c Q n a w:=by
   intro n
   induction n with
   | zero=>intro t a w _ _ _ h;simp only[QEs,Cur.app_ofT]at h
   | succ n ihn=>
    intro t a w d hfr F h;simp only[QEs,Cur.app_of]at h;rw[roundsIn_succ];refine ih (fun _ _ r d s=>p _ _ r d.1 s) h d E ⟨hfr,F⟩ (fun k g w' o m f=>?_) (fun id k g w' o m f=>v id k g w' o m.1 f) (fun k g w' o m f=>z k g w' o m.1 f);obtain⟨D,f⟩:=QAG f;obtain⟨M,O,f⟩:=Cur.appV_app _ _ _ _ f;refine ihn M g w' ?_ m.1 m.2 f;rw[O];exact m.2.fits _ _ (QFs o D)
  refine key n t0 a w ?_ hfr (d.keep _) h;rw[L];exact (d.keep _).fits _ _ (QFs d J)
 | scope c ih=>
  intro Fr ρ u A B a w Q p h d hl hfr q v z;exact QIg (ih (fun _ _ r d s=>p _ _ r d s) h d hl hfr q v z)
 | _=>intro Fr ρ u A B a w Q p h;exact h.elim
inductive Flat (P:Program):List TypeId->Ad->Ad->Prop
 | nil:Flat P [] [] []
 | cons {t:TypeId}{ts:List TypeId}{v:Value}{vs c cs:Ad}:Qdu P t v=some c->Flat P ts vs cs->Flat P (t::ts) (v::vs) (c++cs)
theorem QcX{ty:TypeId}{vs:Ad}(h:QBy P ty=true)(hl:vs.length=(QBm P 20 ty).length):Qdu P ty (.agg vs.toArray)=some vs:=by
 simp[Qdu,h,hl]
def QLl(tmps:Array Value):ResultVar->Sem Value
 | .tmp t=>pure (tmps.getD t undef)
 | .cell a t=>do loadVar t (<- asAddr (tmps.getD a undef))
theorem QM4{N:Nat}{a:Act}{ρ:Env}(o:Fits N dl ρ a):∀(rs:List ResultVar) (ts:List TypeId) (b:Ad) (K:Ad->WP) (w:World),rs.length=ts.length ->
  QIq P (rs.zip ts) ρ b K w->∃vs cs,(rs.mapM (QLl a.tmps)).run P w=.ok vs w/\Flat P ts vs cs/\K (b++cs) w:=by
 intro rs
 induction rs with
 | nil=>
  intro ts b K w hl h
  cases ts with
  | cons=>cases hl
  | nil=>exact⟨[],[],rfl,.nil,by simpa [QIq]using h⟩
 | cons r rs ih=>
  intro ts b K w hl h
  cases ts with
  | nil=>cases hl
  | cons ty ts=>
  have F:rs.length=ts.length:=Si hl
  have j:∀v c,(QLl a.tmps r).run P w=.ok v w->Qdu P ty v=some c->QIq P (rs.zip ts) ρ (b++c) K w ->
    ∃vs cs,((r::rs).mapM (QLl a.tmps)).run P w=.ok vs w/\Flat P (ty::ts) vs cs/\K (b++cs) w:=by
   intro v c p hv x;obtain⟨vs,cs,z,A,B⟩:=ih ts (b++c) K w F x;refine⟨v::vs,c++cs,?_,.cons hv A,by rw[<-Wk];exact B⟩;simp only[List.mapM_cons,Sem.run_bind,p,Result.andThen_ok,z,Sem.run_pure]
  cases r with
  | tmp t=>
   simp only[List.zip_cons_cons,QIq]at h;obtain⟨f,h⟩:=QAG h
   cases hv:Qdu P ty (gv ρ t) with
   | none=>rw[hv]at h;exact h.elim
   | some c=>
    rw[hv]at h;refine j _ c ?_ hv h;have:=o.get t f;simp[QLl,O4,this]
  | cell t u=>
   simp only[List.zip_cons_cons,QIq]at h;obtain⟨f,h⟩:=QAG h;simp only[Wf]at f;obtain⟨f,C⟩:=f;obtain rfl:=Wo C;have l:=o.get t f;cases hv:gv ρ t <;> (try (rw[hv]at h;exact h.elim))
   rename_i q
   cases q with
   | none=>rw[hv]at h;exact h.elim
   | some ad=>
   rw[hv]at h l;simp only at h
   have m:a.tmps.getD t undef=.pointer (some ad):=by simp[O4,l]
   cases e:QBy P u with
   | true=>
    rw[e]at h;simp only[cond_true]at h;obtain⟨d,i⟩:=QC4 e
    cases hsz:QIU P u with
    | none=>rw[hsz]at h;exact h.elim
    | some n=>
     rw[hsz]at h;obtain⟨hb,h⟩:=QAG h;have hb:=Wo hb;obtain⟨vs,k,h,D⟩:=QLE (P:=P) _ _ _ _ _ h;refine j (.agg vs.toArray) vs ?_ (QcX e (Si D)) h;simp only[QLl,m,asAddr,Sem.run_bind,Sem.run_pure,Result.andThen_ok,loadVar,QCE i,e,O7,QEP hsz,loadCells];rw[hb];simp only[List.reverse_nil]at k;rw[k];rfl
   | false=>
    rw[e]at h;simp only[cond_false]at h
    cases g:QBm P 20 u with
    | nil=>rw[g]at h;exact h.elim
    | cons s r=>
     cases r with
     | cons _ _=>rw[g]at h;exact h.elim
     | nil=>
      rw[g]at h;obtain⟨d,i⟩:=QFN g;simp only[QBj]at h;obtain⟨y,E,h⟩:=h;refine j (s.mk y) [s.mk y] ?_ (by simp[Qdu,e]) h;simp only[QLl,m,asAddr,Sem.run_bind,Sem.run_pure,Result.andThen_ok,loadVar,QCE i,e,Wi,Oa,run_load,E]
theorem Flat.length{ts:List TypeId}{vs cs:Ad}(h:Flat P ts vs cs):vs.length=ts.length:=by
 induction h with
 | nil=>rfl
 | cons _ _ ih=>simp[ih]
theorem QYA{ts:List TypeId}{vs cs:Ad}(h:Flat P ts vs cs):QYl (ts.map fun u=>bif QBy P u then some (QBm P 20 u).length else none) cs=vs:=by
 induction h with
 | nil=>rfl
 | @cons t ts v vs c cs hv _ ih=>
  unfold Qdu at hv
  cases a:QBy P t with
  | true=>
   rw[a]at hv;simp only[cond_true]at hv;split at hv
   ·rename_i cs'
    cases hb:Nat.beq cs'.toList.length (QBm P 20 t).length with
    | false=>rw[hb]at hv;cases hv
    | true=>
     rw[hb]at hv;simp only[cond_true,Wg]at hv;subst hv;have hb:=Wo hb;simp only[U9,a,cond_true,QYl];rw[<-hb,Lg,Z0,ih]
   ·cases hv
  | false=>
   rw[a]at hv;simp only[cond_false,Wg]at hv;subst hv;simp only[U9,a,cond_false,List.singleton_append,QYl,ih]
theorem QgD{ts:List TypeId}{vs cs:Ad}(h:Flat P ts vs cs):(QAW P ts).1.mk cs=if h:vs.toArray.size=1 then vs.toArray[0] else .tuple vs.toArray:=by
 have hl:=h.length
 match ts,h with
 | [],h=>
  cases h;rfl
 | [t],h=>
  cases h with
  | @cons _ _ v vs c cs hv h'=>
   cases h';simp only[Oi,QAW];unfold Qdu at hv
   cases a:QBy P t with
   | true=>
    rw[a]at hv;simp only[cond_true]at hv|-;split at hv
    ·rename_i cs'
     cases hb:Nat.beq cs'.toList.length (QBm P 20 t).length with
     | false=>rw[hb]at hv;cases hv
     | true=>
      rw[hb]at hv;simp only[cond_true,Wg]at hv;subst hv;simp[Rs.mk]
    ·cases hv
   | false=>
    rw[a]at hv;simp only[cond_false,Wg]at hv|-;subst hv;simp[Rs.mk]
 | t::t'::ts,h=>
  have:=QYA h;rw[dif_neg (by simp at hl|-;omega)];simp only[QAW,Rs.mk];rw[this]
theorem QNP:∀(vs:Ad) (i t:Nat),has (QKd vs i) t=true->∃j,t=i+j/\vs[j]? = some (gv (QKd vs i) t):=by
 intro vs
 induction vs with
 | nil=>intro i t h;cases h
 | cons v vs ih=>
  intro i t h;simp only[QKd,QDC]at h;simp only[QKd,QCv]
  cases hb:Nat.beq i t with
  | true=>exact⟨0,by have:=Wo hb;omega,rfl⟩
  | false=>
   rw[hb]at h;obtain⟨j,hj,hv⟩:=ih (i+1) t h;exact⟨j+1,Om,Si hv⟩
theorem QLM[Pan](hn:QHG P){dp:Af}{m:Nat->List Oper->Env->(Env->WP)->WP}(C:∀N,QN3 P N (m N)){f:FuncId}{fn:Func}(D:P.funcs[f]? = some fn){args:Ad}{w:World}
  {R:Cur (QAW P fn.resultTypes.toList).2}(h:wpF P dp m fn args _ R w) {S:Ending->World->Prop}
  (hS:∀t w',Cur.app _ R t w'->S (.returned ((QAW P fn.resultTypes.toList).1.mk (Tup.vals _ t))) w') (E:∀w',Pan.q w'->S (.panicked Pan.ch) w'):Calls P f args.toArray w S:=by
 unfold wpF at h
 cases hb:fn.body with
 | none=>rw[hb]at h;exact h.elim
 | some c=>
 rw[hb]at h;simp only at h;obtain⟨hc,h⟩:=QAG h;simp only[Wf]at hc;have hl:=Wo hc.1;have H:=Kb hc.2;refine (QGF (rn:=none) (n:=0)).1 (callsIn_of_wp D hb trivial ?_)
 have z:Fits fn.ntmps [] (QKd args 0) { tmps:=args.toArray++Array.replicate (fn.ntmps - args.toArray.size) undef,defers:=[] }:=by
  refine⟨by simp;omega,rfl,fun t d=>?_⟩;obtain⟨j,hj,hv⟩:=QNP args 0 t d
  have A:t=j:=Om
  subst A;have B:t<args.length:=(Wc.1 hv).1;rw[Ud (Si B)];simpa using hv
 have l:∀ρ (a:Act) w',Fits fn.ntmps [] ρ a->True->QIq P (fn.results.toList.zip fn.resultTypes.toList) ρ [] (fun vs=>Cur.appV _ R vs) w' ->
   a.defers=[]/\∃v,(results fn a.tmps).run P w'=.ok v w'/\S (.returned v) w':=by
  intro ρ a w' k _ e;obtain⟨vs,cs,p,y,i⟩:=QM4 k _ _ _ _ _ hl e;obtain⟨t,d,i⟩:=Cur.appV_app _ _ _ _ i;refine⟨k.defs,_,?_,hS t w' i⟩;simp only[W6]at d;rw[d,QgD y]
  have s:∀g:ResultVar->Sem Value,(∀r,g r=QLl a.tmps r) ->
    (do let vs <- fn.results.mapM g;pure (if h:vs.size=1 then vs[0] else .tuple vs):Sem Value).run P w'=.ok (if h:vs.toArray.size=1 then vs.toArray[0] else .tuple vs.toArray) w':=by
   intro g o;obtain rfl:g=QLl a.tmps:=funext o;rw[Lj];simp only[Sem.run_bind,Sem.run_map,p,Result.andThen_ok,Sem.run_pure]
  exact s _ fun r=>by cases r<;>rfl
 refine QF3 hn (C fn.ntmps) c (Fr:=fun _=>True) (fun a w u _ x=>⟨u,E w x⟩) h z ?_ trivial ?_ ?_ ?_
 ·have:∀c:Code,LeavesC c fun _=>True:=by
   intro c
   induction c with
   | region _ ops _=>exact fun _ _ _ _ _=>trivial
   | seq a b iha ihb=>exact⟨iha,ihb⟩
   | cond _ a b iha ihb=>exact⟨iha,ihb⟩
   | block _ b ih=>exact ih
   | loop b ih=>exact ih
   | _=>trivial
  exact this c
 ·exact l
 ·intro id F G w' _ _ e;exact e.elim
 ·exact l
end
end Go.Cf
namespace Go.Cf
open Go
def QUB:Value->Bool
 | .tuple cs=>Nat.beq cs.toList.length 0
 | _=>false
def QQa(ops:List Oper)(a:Af)(ρ:Env)(g:Option (Nat×Bool)):Option Bool:=
 match QVQ ops a ρ g with
 | some r=>some r
 | none=>match g with
  | none=>none
  | some (j,_)=>match QGq ops j with
   | some d=>bif has ρ d&&QUB (gv ρ d) then some false else none
   | none=>none
def QKR(a:Addr)(v:Value)(K:WP):WP:=fun w=>w.cell? a=some v/\K w
def QBB(o:Oper):Af:=(o.after.toList.filter fun e=>Region.binds .any e).map (·.on)
def QN0:Af->Af->Af
 | [],s=>s
 | x::r,s=>QN0 r (Qgp x s)
def QBX:List Af->Nat->Af
 | [],_=>[]
 | x::_,0=>x
 | _::r,i+1=>QBX r i
def QKW(a:List Af):Af->Af
 | []=>[]
 | m::ms=>QN0 (m::QBX a m) (QKW a ms)
def QCO:List Oper->List Af->List Af
 | [],acc=>acc
 | o::os,acc=>QCO os (acc++[QKW acc (QBB o)])
inductive St where
 | done
 | nul (i:Nat) (t:St)
 | eff (i:Nat) (cs:Af) (t:St)
 | alt (a b:St)
def QIn:St->Af
 | .eff i _ _=>[i]
 | .alt a b=>QIn a++QIn b
 | _=>[]
def QQ5(P:Program)(ops:List Oper)(i:Nat):Bool:=
 match ops[i]? with
 | some o=>QEA P o
 | none=>false
def QLy(ops:List Oper)(i:Nat):Bool:=
 match ops[i]? with
 | some o=>QFB o
 | none=>false
def Qez(P:Program)(ops:List Oper)(l:Af):Af:=l.filter fun m=>!(QQ5 P ops m)
def QVu:Af->St->St
 | [],t=>t
 | i::r,t=>.nul i (QVu r t)
def Qhv:List St->St
 | []=>.done
 | t::ts=>match ts with
  | []=>t
  | _=>.alt t (Qhv ts)
def QaD(ops:List Oper)(i:Nat):Bool:=
 match ops[i]? with
 | some o=>QJ4 o
 | none=>false
def QVf(P:Program)(ops:List Oper)(a:List Af):Nat->Af->Af->Af->St
 | 0,_,_,_=>.done
 | f+1,rem,did,placed=>
  let c:=(List.range ops.length).filter fun i=>QQ5 P ops i && !(QB5 i placed)&&(Qez P ops (QBX a i)).all fun m=>QB5 m did
  let d:=c++placed
  let b:=rem.filter fun e=>(Qez P ops (QBX a e)).all fun m=>QB5 m did
  QVu c (Qhv ((bif Nat.ble b.length 5 then b else b.take 1).map fun e=>
   .eff e (bif QaD ops e then [] else d.reverse.filter fun r=>QLy ops r && !(QB5 r (QBX a e))) (QVf P ops a f (rem.filter fun m=>!(Nat.beq m e)) (e::did) d)))
def QCW:List Oper->Nat->Nat->Option Nat
 | [],_,_=>none
 | o::os,i,t=>match o.dst with
  | some d=>bif Nat.beq d t then some i else QCW os (i+1) t
  | none=>QCW os (i+1) t
def QWC(ops:List Oper)(a:List Af)(i:Nat):Operand->Bool
 | .tmp t=>(match QCW ops 0 t with
  | some u=>!(Nat.beq u i)&&(QB5 u (QBX a i)||QB5 i (QBX a u))
  | none=>true)
 | _=>true
def Qbv(ops:List Oper)(a:List Af)(i:Nat):Operand->Bool
 | .tmp t=>(match QCW ops 0 t with
  | some u=>QB5 u (QBX a i)
  | none=>true)
 | _=>true
def QCo:Af->Bool
 | []=>true
 | t::r=>!(QB5 t r)&&QCo r
def QOc:List Oper->Af
 | []=>[]
 | o::os=>match o.dst with
  | some t=>t::QOc os
  | none=>QOc os
def QdF(N:Nat)(ops:List Oper)(a:List Af):List Oper->Nat->Bool
 | [],_=>true
 | o::os,i=>o.op.operands.toList.all (QWC ops a i)&&(match o.dst with|some d=>Nat.blt d N|none=>true) &&
   (match o.op with|.select .. => false|_=>true) &&
   (match o.guard with|some (g,_)=>QB5 g (QBB o)&&(match QGq ops g with|some _=>true|none=>false)|none=>true)&&QdF N ops a os (i+1)
def Qep(o:Oper):Operand:=
 match o.op with
 | .load _ x=>x
 | _=>.const undef
def QeH:Af->Bool
 | []=>true
 | _=>false
def QGI(P:Program)(ops:List Oper)(c:List Af):St->Af->Af->Bool
 | .done,X,H=>QeH H&&(List.range ops.length).all fun i=>QB5 i X
 | .nul i S,X,H=>QeH H&&(match ops[i]? with
  | some o=>!(QB5 i X)&&QEA P o&&(QBB o).all (fun m=>QB5 m X)&&QGI P ops c S (i::X) []
  | none=>false)
 | .eff i cs S,X,H=>(match ops[i]? with
  | some o=>!(QB5 i X)&&(QBB o).all (fun m=>QB5 m X) &&
    (List.range ops.length).all (fun k=>QB5 k X||QB5 k (i::H)||(match ops[k]? with|some ok=>(QBB ok).any fun m=>!(QB5 m X)|none=>true)) &&
    X.all (fun r=>!(QLy ops r)||QB5 r (QBX c i)||QB5 r cs||QJ4 o) &&
    cs.all (fun r=>QB5 r X&&(match ops[r]? with|some or=>QFB or&&Qbv ops c r (Qep or)|none=>false)) &&
    QGI P ops c S (i::X) []
  | none=>false)
 | .alt a b,X,H=>!(QeH (QIn a)) && !(QeH (QIn b))&&QGI P ops c a X (QIn b++H)&&QGI P ops c b X (QIn a++H)
def QgF(P:Program)(N:Nat)(ops:List Oper)(a:List Af)(S:St):Bool:=
 QCo (QOc ops)&&QdF N ops a ops 0&&QGI P ops a S [] []
def QQp:Ad->Addr->Nat->WP->WP
 | [],_,_,K=>K
 | v::vs,a,i,K=>QKR (a.add i) v (QQp vs a (i+1) K)
def QUw(P:Program)(t:TypeId)(a:Addr)(v:Value)(K:WP):WP:=
 bif QBy P t then (match v with
  | .agg cs=>(match QIU P t with|some n=>bif Nat.beq n cs.toList.length then QQp cs.toList a 0 K else bad|none=>bad)
  | _=>bad)
 else (match P.underlying t with|some _=>QKR a v K|none=>bad)
def QPu(P:Program)(ops:List Oper)(a:Af)(ρ:Env)(K:WP):Af->WP
 | []=>K
 | r::cs=>match ops[r]? with
  | some o=>(match QQa ops a ρ o.guard with
   | some true=>(match o.op with
    | .load t x=>(match o.dst,ev ρ x with
     | some d,.pointer (some ad)=>bif QNX ρ x&&has ρ d then QUw P t ad (gv ρ d) (QPu P ops a ρ K cs) else bad
     | _,_=>bad)
    | _=>bad)
   | some false=>QPu P ops a ρ K cs
   | none=>bad)
  | none=>bad
def QRH[Pan](P:Program)(N:Nat)(ops:List Oper)(o:Oper)(a:Af)(ρ:Env)(e f:Af->Env->WP):WP:=
 match QQa ops a ρ o.guard with
 | some true=>bif QTv N ρ o then QBS P o ρ (e a) else bad
 | some false=>f a (put ρ o.dst undef)
 | none=>match o.guard with
  | none=>bad
  | some (j,b)=>match QGq ops j with
   | none=>bad
   | some d=>match has ρ d,gv ρ d with
    | true,.bool x=>
     let run (ρ:Env):WP:=bif QTv N ρ o then QBS P o ρ (e (j::a)) else bad
     let c (ρ:Env):WP:=f (j::a) (put ρ o.dst undef)
     XIf x (bif b then run ((d,.bool true)::ρ) else c ((d,.bool true)::ρ)) (bif b then c ((d,.bool false)::ρ) else run ((d,.bool false)::ρ))
    | _,_=>bad
def QZP(A B:WP):WP:=fun w=>A w/\B w
def QBv[Pan](P:Program)(N:Nat)(ops:List Oper):St->Af->Env->(Env->WP)->WP
 | .done,_,ρ,K=>K ρ
 | .nul i S,dec,ρ,K=>(match ops[i]? with
  | some o=>QRH P N ops o dec ρ (fun dec' c=>QBv P N ops S dec' c K) (fun dec' c=>QBv P N ops S dec' c K)
  | none=>bad)
 | .eff i cs S,dec,ρ,K=>(match ops[i]? with
  | some o=>QRH P N ops o dec ρ (fun dec' c=>QPu P ops dec' c (QBv P N ops S dec' c K) cs) (fun dec' c=>QBv P N ops S dec' c K)
  | none=>bad)
 | .alt a b,dec,ρ,K=>QZP (QBv P N ops a dec ρ K) (QBv P N ops b dec ρ K)
def QaZ:St->Bool
 | .alt _ _=>true
 | .nul _ t=>QaZ t
 | .eff _ _ t=>QaZ t
 | .done=>false
def Qis(t:Nat):Operand->Nat
 | .tmp u=>bif Nat.beq u t then 1 else 0
 | _=>0
def QjU(t:Nat):List Operand->Nat
 | []=>0
 | x::r=>Qis t x+QjU t r
def Qim(t:Nat):List Oper->Nat
 | []=>0
 | o::r=>QjU t o.op.operands.toList+Qim t r
def Qb6(t:Nat):Code->Nat
 | .region _ ops _=>Qim t ops.toList
 | .seq a b=>Qb6 t a+Qb6 t b
 | .cond c a b=>Qis t c+(Qb6 t a+Qb6 t b)
 | .block _ b=>Qb6 t b
 | .scope b=>Qb6 t b
 | .loop b=>Qb6 t b
 | .rangeFunc f _ a b=>Qis t f+(Qb6 t a+Qb6 t b)
 | _=>0
def Qix(t:Nat):List ResultVar->Nat
 | []=>0
 | .tmp u::r=>(bif Nat.beq u t then 1 else 0)+Qix t r
 | .cell u _::r=>(bif Nat.beq u t then 1 else 0)+Qix t r
def QZr(fn:Func)(ops:List Oper):Af:=
 match fn.body with
 | some c=>(QOc ops).filter fun t=>Nat.blt (Qim t ops) (Qb6 t c+Qix t fn.results.toList)
 | none=>[]
def QjD(P:Program)(ops:List Oper)(ρ:Env)(t:Nat):Sh:=
 bif has ρ t then QcH (gv ρ t) else (match QCW ops 0 t with
  | some i=>(match ops[i]? with|some o=>QV3 P o.type|none=>.val)
  | none=>.val)
def QeW(ops:List Oper)(S:St):Bool:=ops.any (fun o=>o.guard.isSome)||(QaZ S && !(ops.any fun o=>match o.op with|.alloc _=>true|_=>false))
def fSt:St->(St->WP)->WP
 | .done,f=>f .done
 | .nul i S,f=>fSt S fun S=>f (.nul i S)
 | .eff i cs S,f=>fNs cs fun cs=>fSt S fun S=>f (.eff i cs S)
 | .alt a b,f=>fSt a fun a=>fSt b fun b=>f (.alt a b)
theorem QRe:∀(S:St) (f:St->WP),fSt S f=f S
 | .done,_=>rfl
 | .nul i S,f=>by rw[fSt,QRe S]
 | .eff i cs S,f=>by rw[fSt,QPM,QRe S]
 | .alt a b,f=>by rw[fSt,QRe a,QRe b]
def QLm[Pan](P:Program)(fn:Func)(N:Nat)(ops:List Oper)(ρ:Env)(c:Env->WP):WP:=
 let b:=QCO ops []
 fSt (QVf P ops b (ops.length+1) ((List.range ops.length).filter fun i=>!(QQ5 P ops i)) [] []) fun S=>
 bif QgF P N ops b S then
  bif QeW ops S then
   (fNs (QN0 (QZr fn ops) (QIY (ops.filter fun o=>match o.dst with|some t=>has ρ t|none=>false) [])) fun cs=>
    fSs (cs.map (QjD P ops ρ)) fun ss=>
    QBW ss (fun K=>QBv P N ops S [] ρ fun a=>bif QHH a cs then Cur.appV ss K (cs.map (gv a)) else bad) (Cur.of ss fun vs=>fE (QOB cs vs ρ) c))
  else QBv P N ops S [] ρ c
 else bad
theorem QNy{t:Nat}:∀(l s:Af),QB5 t (QN0 l s)=true↔QB5 t l=true\/QB5 t s=true:=by
 intro l
 induction l with
 | nil=>intro s;simp[QN0,QB5]
 | cons x r ih=>
  intro s;simp only[QN0,ih,QS9];simp only[QBg,W7];constructor
  ·rintro (h|h|h)
   ·exact .inl (.inr h)
   ·exact .inl (.inl h)
   ·exact .inr h
  ·rintro ((h|h)|h)
   ·exact .inr (.inl h)
   ·exact .inl h
   ·exact .inr (.inr h)
theorem QUN{b:List Af}{r:Nat}:∀(a:Af),QB5 r (QKW b a)=true->∃m∈a,r=m\/QB5 r (QBX b m)=true:=by
 intro a
 induction a with
 | nil=>intro h;simp[QKW,QB5]at h
 | cons m a ih=>
  intro h;simp only[QKW,QNy]at h;rcases h with h|h
  ·rw[QBg,W7]at h;rcases h with h|h
   ·exact⟨m,W5 ..,.inl h⟩
   ·exact⟨m,W5 ..,.inr (QBg.2 h)⟩
  ·obtain⟨m',c,h⟩:=ih h;exact⟨m',Wz _ c,h⟩
theorem QZx:∀(l:List Af) (i:Nat),l.length<=i->QBX l i=[]:=by
 intro l
 induction l with
 | nil=>intro i _;rfl
 | cons x r ih=>
  intro i h
  cases i with
  | zero=>simp at h
  | succ i=>exact ih i (Si h)
theorem QLh:∀(l l':List Af) (i:Nat),i<l.length->QBX (l++l') i=QBX l i:=by
 intro l
 induction l with
 | nil=>intro l' i h;simp at h
 | cons x r ih=>
  intro l' i h
  cases i with
  | zero=>rfl
  | succ i=>exact ih l' i (Si h)
theorem QOV:∀(l:List Af) (x:Af),QBX (l++[x]) l.length=x:=by
 intro l
 induction l with
 | nil=>intro x;rfl
 | cons y r ih=>intro x;exact ih x
section
variable {ops:List Oper}
theorem QH9{D:Nat->Prop}(p:∀i o,D i->ops[i]? = some o->∀m∈QBB o,D m) :
  ∀i o,ops[i]? = some o->(∀m∈QBB o,D m)->∀r,QB5 r (QBX (QCO ops []) i)=true->D r:=by
 have key:∀(l:List Oper) (b:List Af),l=ops.drop b.length->b.length<=ops.length ->
   (∀i o,ops[i]? = some o->(∀m∈QBB o,D m)->∀r,QB5 r (QBX b i)=true->D r) ->
   ∀i o,ops[i]? = some o->(∀m∈QBB o,D m)->∀r,QB5 r (QBX (QCO l b) i)=true->D r:=by
  intro l
  induction l with
  | nil=>intro b _ _ h;exact h
  | cons o os ih=>
   intro b hl q h
   have t:b.length<ops.length:=by
    rcases Zb b.length ops.length with d|d
    ·exact d
    ·rw[Zh d]at hl;cases hl
   have n:ops[b.length]? = some o:=by
    have:=Uh (fun l=>l[0]?) hl;simpa using this.symm
   refine ih (b++[QKW b (QBB o)]) ?_ (by simp;omega) ?_
   ·have:=Uh List.tail hl;simpa using this
   ·intro i g hi c r a;rcases Nat.lt_trichotomy i b.length with j|k|s
    ·rw[QLh _ _ _ j]at a;exact h i g hi c r a
    ·subst k;rw[n]at hi;cases hi;rw[QOV]at a;obtain⟨m,f,a⟩:=QUN _ a;rcases a with rfl|a
     ·exact c _ f
     ·cases e:ops[m]? with
      | none=>
       have:b.length<=m:=by
        have:=List.getElem?_eq_none_iff.1 e;omega
       rw[QZx _ _ this]at a;simp[QB5]at a
      | some om=>exact h m om e (p m om (c m f) e) r a
    ·rw[QZx _ _ (by simp;omega)]at a;simp[QB5]at a
 exact key ops [] (by simp) (by simp) (fun i o _ _ r a=>by simp[QBX,QB5]at a)
theorem QeC{t:Nat}:∀{l:List Oper}{i:Nat}{o:Oper},l[i]? = some o->o.dst=some t->QB5 t (QOc l)=true:=by
 intro l
 induction l with
 | nil=>intro i o h;simp at h
 | cons x r ih=>
  intro i o h a
  cases i with
  | zero=>
   simp only[Ov,Wg]at h;subst h;simp[QOc,a,QB5]
  | succ i=>
   have:=ih (i:=i) (Si h) a;unfold QOc
   cases hx:x.dst with
   | none=>exact this
   | some u=>simp only[QB5,this];cases Nat.beq u t<;>rfl
theorem QIt{t:Nat}:∀{l:List Oper},QCo (QOc l)=true->∀{i j:Nat}{a b:Oper},l[i]? = some a->l[j]? = some b->a.dst=some t->b.dst=some t->i=j:=by
 intro l
 induction l with
 | nil=>intro _ i j a b h;simp at h
 | cons x r ih=>
  intro hn i j a b hi hj c d
  have m:QCo (QOc r)=true:=by
   unfold QOc at hn
   cases hx:x.dst with
   | none=>rw[hx]at hn;exact hn
   | some u=>rw[hx]at hn;simp only[QCo,Wf]at hn;exact hn.2
  have e:∀(k:Nat) (o:Oper),r[k]? = some o->o.dst=some t->x.dst≠some t:=by
   intro k o f g hx;unfold QOc at hn;rw[hx]at hn;simp only[QCo,Wf,W2]at hn;rw[QeC f g]at hn;simp at hn
  cases i with
  | zero=>
   cases j with
   | zero=>rfl
   | succ j=>
    simp only[Ov,Wg]at hi;subst hi;exact absurd c (e j b (Si hj) d)
  | succ i=>
   cases j with
   | zero=>
    simp only[Ov,Wg]at hj;subst hj;exact absurd d (e i a (Si hi) c)
   | succ j=>
    have:=ih m (i:=i) (j:=j) (Si hi) (Si hj) c d;rw[this]
theorem QQQ{t:Nat}:∀{l:List Oper}{k u:Nat},QCW l k t=some u->∃(v:Nat) (o:Oper),u=k+v/\l[v]? = some o/\o.dst=some t:=by
 intro l
 induction l with
 | nil=>intro k u h;cases h
 | cons x r ih=>
  intro k u h
  have a:QCW r (k+1) t=some u->∃(v:Nat) (o:Oper),u=k+v/\(x::r)[v]? = some o/\o.dst=some t:=by
   intro h;obtain⟨v,o,rfl,b,c⟩:=ih h;exact⟨v+1,o,Om,Si b,c⟩
  unfold QCW at h
  cases hx:x.dst with
  | none=>rw[hx]at h;exact a h
  | some d=>
   rw[hx]at h;simp only at h
   cases hb:Nat.beq d t with
   | false=>rw[hb]at h;exact a h
   | true=>
    rw[hb]at h;simp only[cond_true,Wg]at h;exact⟨0,x,Om,rfl,by rw[hx,Wo hb]⟩
theorem QQo{t:Nat}:∀{l:List Oper}{k:Nat},QCW l k t=none->∀(i:Nat) (o:Oper),l[i]? = some o->o.dst≠some t:=by
 intro l
 induction l with
 | nil=>intro k _ i o h;simp at h
 | cons x r ih=>
  intro k h i o hi a
  have b:QCW r (k+1) t=none/\x.dst≠some t:=by
   unfold QCW at h
   cases hx:x.dst with
   | none=>rw[hx]at h;exact⟨h,by simp⟩
   | some d=>
    rw[hx]at h;simp only at h
    cases hb:Nat.beq d t with
    | true=>rw[hb]at h;cases h
    | false=>
     rw[hb]at h;refine⟨h,fun e=>?_⟩;simp only[Wg]at e;subst e;simp at hb
  cases i with
  | zero=>
   simp only[Ov,Wg]at hi;subst hi;exact b.2 a
  | succ i=>exact ih b.1 i o (Si hi) a
theorem QJC{t u:Nat}{a:Oper}(hn:QCo (QOc ops)=true)(c:ops[u]? = some a)(d:a.dst=some t):QCW ops 0 t=some u:=by
 cases b:QCW ops 0 t with
 | none=>exact absurd d (QQo b u a c)
 | some v=>
  obtain⟨h,o,e,f,g⟩:=QQQ b;have:=QIt hn f c g d;rw[e,this];simp
structure QD4(N:Nat)(ops:List Oper)(i:Nat)(o:Oper):Prop where
 reads:∀x∈o.op.operands,QWC ops (QCO ops []) i x=true
 dst:∀t,o.dst=some t->t<N
 sel:∀cs b,o.op≠.select cs b
 guard:∀g b,o.guard=some (g,b)->g∈QBB o/\∃d,QGq ops g=some d
theorem QXR{N:Nat}{j:List Af}(hb:j=QCO ops []):∀(l:List Oper) (k:Nat),QdF N ops j l k=true->∀(i:Nat) (o:Oper),l[i]? = some o->QD4 N ops (k+i) o:=by
 intro l
 induction l with
 | nil=>intro k _ i o h;simp at h
 | cons x r ih=>
  intro k h i o hi;simp only[QdF,Wf]at h;obtain⟨⟨⟨⟨h1,c⟩,f⟩,a⟩,n⟩:=h
  cases i with
  | succ i=>
   have:=ih (k+1) n i o (Si hi);rw[show k+(i+1)=k+1+i by omega];exact this
  | zero=>
   simp only[Ov,Wg]at hi;subst hi;refine⟨fun x hx=>?_,fun t m=>?_,fun cs b e=>?_,fun g b e=>?_⟩
   ·have:=Ot.1 h1 x (Si hx);rw[hb]at this;exact this
   ·rw[m]at c;simpa [K6]using c
   ·rw[e]at f;simp at f
   ·rw[e]at a;simp only[Wf]at a;refine⟨QBg.1 a.1,?_⟩
    cases p:QGq ops g with
    | none=>rw[p]at a;simp at a
    | some d=>exact⟨d,rfl⟩
end
def KeepsC(w b:World):Prop:=∀a v,w.cell? a=some v->b.cell? a=some v
theorem KeepsC.refl(w:World):KeepsC w w:=fun _ _ h=>h
theorem KeepsC.trans{a b c:World}(h:KeepsC a b)(k:KeepsC b c):KeepsC a c:=fun x v e=>k x v (h x v e)
theorem QP4{P:Program}{w:World}:∀(ss:List Sh) (b:Addr) (i:Nat) (a:Ad) (K:Ad->WP),QGd ss b i a K w ->
  ∃vs,(∀w',KeepsC w w'->(loadCellsFrom b i ss.length a.reverse.toArray).run P w'=.ok vs.toArray w')/\K vs w:=by
 intro ss
 induction ss with
 | nil=>intro b i a K h;exact⟨a.reverse,fun _ _=>rfl,h⟩
 | cons s ss ih=>
  intro b i a K h;rw[QGd,QBj]at h;obtain⟨x,hx,h⟩:=h;obtain⟨vs,hv,h⟩:=ih b (i+1) (s.mk x::a) K h;refine⟨vs,fun w' c=>?_,h⟩;simp only[Wl,loadCellsFrom,Sem.run_bind,run_load,c _ _ hx,Result.andThen_ok]
  have e:(a.reverse.toArray.push (s.mk x))=(s.mk x::a).reverse.toArray:=by simp
  rw[e];exact hv w' c
theorem QY1[Pan]{P:Program}{w:World}{ρ:Env}{o:Oper}{K:Env->WP}(hl:QFB o=true)(h:QBS P o ρ K w) :
  ∃v,K (put ρ o.dst v) w/\∀w',KeepsC w w'->(execOp (ev ρ) o).run P w'=.ok (.value v) w':=by
 obtain⟨dst,op,g,pos,i,guard⟩:=o;cases op<;>simp only[QFB,Wi]at hl
 rename_i t x
 simp only[QBS,QBj,QBn,QBz,QDo,QCJ]at h;simp only[execOp];cases hx:ev ρ x<;>rw[hx]at h<;>try exact h.elim
 rename_i q
 cases q with
 | none=>exact h.elim
 | some ad=>
 simp only at h
 cases a:QBy P t with
 | true=>
  rw[a]at h;simp only[cond_true]at h;obtain⟨d,e⟩:=QC4 a
  cases hsz:QIU P t with
  | none=>rw[hsz]at h;exact h.elim
  | some n=>
   rw[hsz]at h;obtain⟨hb,h⟩:=QAG h;have hb:=Wo hb;obtain⟨vs,hv,h⟩:=QP4 (P:=P) _ _ _ _ _ h;refine⟨_,h,fun w' c=>QBd ?_⟩;have hv:=hv w' c;simp only[Instr.loadAt,Instr.sureAddr,Sem.run_bind,Sem.run_pure,Result.andThen_ok,loadVar,QCE e,a,O7,QEP hsz,loadCells];rw[hb];simp only[List.reverse_nil]at hv;rw[hv];rfl
 | false=>
  rw[a]at h;simp only[cond_false]at h
  cases b:QBm P 20 t with
  | nil=>rw[b]at h;exact h.elim
  | cons s r=>
   cases r with
   | cons _ _=>rw[b]at h;exact h.elim
   | nil=>
    rw[b]at h;obtain⟨d,e⟩:=QFN b;obtain⟨y,f,h⟩:=h;refine⟨_,h,fun w' c=>QBd ?_⟩;simp only[Instr.loadAt,Instr.sureAddr,Sem.run_bind,Sem.run_pure,Result.andThen_ok,loadVar,QCE e,a,Wi,Oa,run_load,c _ _ f]
theorem QYo[Pan]{P:Program}{w:World}{ρ:Env}{o:Oper}{K:Env->WP}(c:QEA P o=true)(h:QBS P o ρ K w) :
  ∃v,K (put ρ o.dst v) w/\(∀w',KeepsC w w'->(execOp (ev ρ) o).run P w'=.ok (.value v) w')/\(QFB o=true\/∀w',(execOp (ev ρ) o).run P w'=.ok (.value v) w'):=by
 cases hl:QFB o with
 | true=>
  obtain⟨v,h1,b⟩:=QY1 hl h;exact⟨v,h1,b,.inl rfl⟩
 | false=>
  obtain⟨v,h1,_,a⟩:=QM6 c h;rcases a with a|a
  ·rw[hl]at a;cases a
  ·exact⟨v,h1,fun w' _=>a w',.inr a⟩
theorem QUn(w:World)(o:Obj):KeepsC w (w.alloc o):=by
 intro a v h
 have b:a.block<w.heap.size:=by
  unfold World.cell? at h;split at h
  ·rename_i hb;exact (W9.1 hb).1
  ·cases h
 have e:(w.alloc o).heap[a.block]? = w.heap[a.block]?:=by
  show (w.heap.push o)[a.block]? = _;rw[Z4 b,O9 b]
 unfold World.cell? at h|-;rw[e];exact h
theorem QVN[Pan]{P:Program}{w:World}{ρ:Env}{o:Oper}{K:Env->WP}(m:QJ4 o=true)(h:QBS P o ρ K w):QBS P o ρ (fun l a=>K l a/\KeepsC w a) w:=by
 obtain⟨dst,op,p,pos,q,guard⟩:=o;have f:∀{cs:Ad}{e:TypeId}{F:Nat->WP},QCz cs e F w->QCz cs e (fun b a=>F b a/\KeepsC w a) w:=fun h=>⟨h,QUn _ _⟩;cases op<;>simp only[QJ4,Wi]at m
 ·rename_i e
  simp only[QBS,QBj,QBn,QBz,QDo,QCJ]at h|-
  cases c:(P.info? e).bind (·.zero) with
  | none=>rw[c]at h;exact h.elim
  | some z=>rw[c]at h;exact f h
 ·simp only[QBS,QBj,QBn,QBz,QDo,QCJ]at h|-;exact f h
 ·rename_i t len parts
  simp only[QBS,QBj,QBn,QBz,QDo,QCJ]at h|-
  cases j:P.underlying t with
  | none=>rw[j]at h;exact h.elim
  | some d=>
   rw[j]at h;cases d <;> (try exact h.elim)
   rename_i e
   simp only at h|-
   cases g:QIU P e with
   | none=>rw[g]at h;exact h.elim
   | some n=>
    cases c:QFR P e with
    | none=>rw[g,c]at h;exact h.elim
    | some z=>
     rw[g,c]at h;simp only at h|-;obtain⟨hb,h⟩:=QAG h;rw[hb];simp only[cond_true]
     cases k:QOY (fun i=>some (i*n,n)) (QJI z len) (QNh ρ parts.toList) with
     | none=>rw[k]at h;exact h.elim
     | some cs=>rw[k]at h;exact f h
def QHt(a:Nat->Value)(o:Oper):Prop:=
 match o.guard with
 | none=>True
 | some (g,b)=>a g=.bool b
inductive OrdOK (ops:List Oper):Af->Prop
 | nil:OrdOK ops []
 | cons {x:Nat}{X:Af}:(∀o,ops[x]? = some o->∀m∈QBB o,m∈X)->OrdOK ops X->OrdOK ops (x::X)
theorem OrdOK.closed{ops:List Oper}{X:Af}(h:OrdOK ops X):∀i o,i∈X->ops[i]? = some o->∀m∈QBB o,m∈X:=by
 induction h with
 | nil=>intro i o hi;cases hi
 | cons hx _ ih=>
  intro i o hi a m b;rcases W7.1 hi with rfl|hi
  ·exact Wz _ (hx o a m b)
  ·exact Wz _ (ih i o hi a m b)
def Dn(listed:Array Bool)(i:Nat):Prop:=listed[i]? = some true
def Src(ops:List Oper)(ρ0:Env)(X:Af)(b:Nat->Value)(i:Nat)(o:Oper)(ρ:Env):Prop:=
 ∀x∈o.op.operands,QNX ρ x=true/\∀t,x=.tmp t ->
  (∃u a,ops[u]? = some a/\a.dst=some t/\QB5 u (QBX (QCO ops []) i)=true/\gv ρ t=b u/\u∈X) \/
  (has ρ0 t=true/\gv ρ t=gv ρ0 t/\∀(u:Nat) (a:Oper),ops[u]? = some a->a.dst=some t->QB5 u (QBX (QCO ops []) i)=false/\QB5 i (QBX (QCO ops []) u)=true)
def Pend(P:Program)(ops:List Oper)(ρ0:Env)(X:Af)(a:Nat->Value)(w:World)(i:Nat)(o:Oper):Prop:=
 (QHt a o/\∃ρ,Src ops ρ0 X a i o ρ/\(∀w',KeepsC w w'->(execOp (ev ρ) o).run P w'=.ok (.value (a i)) w')/\(QFB o=true\/∀w',(execOp (ev ρ) o).run P w'=.ok (.value (a i)) w')) \/
 (¬QHt a o/\a i=undef)
def EnvOK(ops:List Oper)(ρ0:Env)(X:Af)(a:Nat->Value)(ρ:Env):Prop:=
 ∀t,has ρ t=true->(∃i o,i∈X/\ops[i]? = some o/\o.dst=some t/\gv ρ t=a i)\/(has ρ0 t=true/\gv ρ t=gv ρ0 t/\∀(i:Nat) (o:Oper),i∈X->ops[i]? = some o->o.dst≠some t)
structure Can(P:Program)(ops:List Oper)(ρ0:Env)(D:Nat->Prop)(w:World)(X:Af)(V:Nat->Value)(ρ:Env):Prop where
 ord:OrdOK ops X
 xb:∀i∈X,∃o,ops[i]? = some o
 env:EnvOK ops ρ0 X V ρ
 pend:∀i o,i∈X->¬D i->ops[i]? = some o->Pend P ops ρ0 X V w i o
structure Act1(dl:List Deferred)(N:Nat)(ops:List Oper)(ρ0:Env)(Fr:Act->Prop)(listed:Array Bool)(a:Act)(X:Af)(V:Nat->Value):Prop where
 lsize:listed.size=ops.length
 dx:∀i,Dn listed i->i∈X
 dcl:∀i o,Dn listed i->ops[i]? = some o->∀m∈QBB o,Dn listed m
 size:N<=a.tmps.size
 defs:a.defers=dl
 fr:Fr a
 vals:∀i o t,Dn listed i->ops[i]? = some o->o.dst=some t->a.tmps[t]? = some (V i)
 base:∀t,has ρ0 t=true->(∀i o,Dn listed i->ops[i]? = some o->o.dst≠some t)->a.tmps[t]? = some (gv ρ0 t)
section
variable [Pan] {P:Program}{rn:Option Nat}{dl:List Deferred}{N:Nat}{ops:List Oper}{ρ0:Env}{X:Af}{V:Nat->Value}
theorem QID{g d:Nat}(h:QGq ops g=some d):∃o,ops[g]? = some o/\o.dst=some d:=by
 unfold QGq at h
 cases a:ops[g]? with
 | none=>rw[a]at h;cases h
 | some o=>rw[a]at h;exact⟨o,rfl,h⟩
theorem EnvOK.at{ρ:Env}(he:EnvOK ops ρ0 X V ρ)(hn:QCo (QOc ops)=true){i t:Nat}{o:Oper}(hi:i∈X)(a:ops[i]? = some o)(b:o.dst=some t)(f:has ρ t=true):gv ρ t=V i:=by
 rcases he t f with⟨j,g,_,c,d,hv⟩|⟨_,_,e⟩
 ·rw[hv,QIt hn c a d b]
 ·exact absurd b (e i o hi a)
theorem QbR{j:Af}{ρ:Env}{i:Nat}{o:Oper}{r:Bool}(he:EnvOK ops ρ0 X V ρ)(hn:QCo (QOc ops)=true)(q:QD4 N ops i o)(s:∀m∈QBB o,m∈X)
  (h:QVQ ops j ρ o.guard=some r):QHt V o↔r=true:=by
 unfold QHt
 cases a:o.guard with
 | none=>rw[a]at h;simp only[QVQ,Wg]at h;simp[<-h]
 | some gb=>
  obtain⟨g,b⟩:=gb;rw[a]at h;simp only[QVQ]at h
  cases f:QB5 g j with
  | false=>rw[f]at h;cases h
  | true=>
   rw[f]at h;simp only[cond_true]at h;obtain⟨k,d,e⟩:=q.guard g b a;rw[e]at h;simp only at h
   cases c:has ρ d with
   | false=>rw[c]at h;cases h
   | true=>
    rw[c]at h;simp only[cond_true]at h;obtain⟨t,l,n⟩:=QID e;have hv:=he.at hn (s g k) l n c
    (try simp only)
    rw[<-hv];clear hv;cases p:gv ρ d<;>rw[p]at h<;>simp only[reduceCtorEq,Wg]at h
    rename_i x
    subst h;cases x<;>cases b<;>simp
theorem QPd{k:Af}{ρ:Env}{i:Nat}{o:Oper}{r:Bool}(he:EnvOK ops ρ0 X V ρ)(hn:QCo (QOc ops)=true)(l:QD4 N ops i o)(n:∀m∈QBB o,m∈X)
  (h:QQa ops k ρ o.guard=some r):QHt V o↔r=true:=by
 unfold QQa at h
 cases e:QVQ ops k ρ o.guard with
 | some r'=>
  rw[e]at h;simp only[Wg]at h;subst h;exact QbR he hn l n e
 | none=>
  rw[e]at h
  cases c:o.guard with
  | none=>rw[c]at h;simp at h
  | some gb=>
   obtain⟨g,b⟩:=gb;rw[c]at h;simp only at h;obtain⟨p,d,f⟩:=l.guard g b c;rw[f]at h;simp only at h
   cases a:(has ρ d&&QUB (gv ρ d)) with
   | false=>rw[a]at h;cases h
   | true=>
    rw[a]at h;simp only[cond_true,Wg]at h;simp only[Wf]at a;obtain⟨u,q,s⟩:=QID f;have hv:=he.at hn (n g p) q s a.1;unfold QHt;rw[c,<-h]
    (try simp only)
    rw[<-hv];have j:=a.2;clear hv;cases t:gv ρ d<;>rw[t]at j<;>simp[QUB]at j|-
theorem EnvOK.known{ρ:Env}(he:EnvOK ops ρ0 X V ρ){d:Nat}{x:Bool}(b:has ρ d=true)(hv:gv ρ d=.bool x):EnvOK ops ρ0 X V ((d,.bool x)::ρ):=by
 intro t a;rw[QDC]at a;rw[QCv]
 cases hb:Nat.beq d t with
 | true=>
  have:=Wo hb;subst this;simp only[cond_true];rw[<-hv];exact he d b
 | false=>
  rw[hb]at a;exact he t a
theorem QLR{o:Oper}{i:Nat}{e:Af}{ρ:Env}{s t:Af->Env->WP}{w:World}(he:EnvOK ops ρ0 X V ρ)(hn:QCo (QOc ops)=true)(z:QD4 N ops i o)(A:∀m∈QBB o,m∈X)
  (h:QRH P N ops o e ρ s t w) :
  ∃dec' c,EnvOK ops ρ0 X V c/\((QHt V o/\QTv N c o=true/\QBS P o c (s dec') w)\/(¬QHt V o/\t dec' (put c o.dst undef) w)):=by
 unfold QRH at h
 cases l:QQa ops e ρ o.guard with
 | some r=>
  rw[l]at h;have k:=QPd he hn z A l
  cases r with
  | true=>
   obtain⟨u,h⟩:=QAG h;exact⟨e,ρ,he,.inl ⟨k.2 rfl,u,h⟩⟩
  | false=>exact⟨e,ρ,he,.inr ⟨fun a=>Zl (k.1 a),h⟩⟩
 | none=>
  rw[l]at h
  cases q:o.guard with
  | none=>rw[q]at l;simp[QQa,QVQ]at l
  | some jb=>
   obtain⟨j,b⟩:=jb;rw[q]at h;simp only at h;obtain⟨C,d,y⟩:=z.guard j b q;rw[y]at h;simp only at h
   cases a:has ρ d with
   | false=>rw[a]at h;exact h.elim
   | true=>
    rw[a]at h;cases hv:gv ρ d <;> (try (rw[hv]at h;exact h.elim))
    rename_i x
    rw[hv]at h;simp only at h;obtain⟨H,D,E⟩:=QID y;have G:=he.at hn (A j C) D E a
    have k:QHt V o↔x=b:=by
     unfold QHt;rw[q]
     (try simp only)
     rw[<-G,hv];simp
    obtain⟨g,F⟩:=h
    have n:∀(f:Env),EnvOK ops ρ0 X V f->(x=b->(bif QTv N f o then QBS P o f (s (j::e)) else bad) w)->(x≠b->t (j::e) (put f o.dst undef) w) ->
      ∃dec' c,EnvOK ops ρ0 X V c/\((QHt V o/\QTv N c o=true/\QBS P o c (s dec') w)\/(¬QHt V o/\t dec' (put c o.dst undef) w)):=by
     intro f v h1 B;by_cases p:x=b
     ·obtain⟨u,h⟩:=QAG (h1 p);exact⟨j::e,f,v,.inl ⟨k.2 p,u,h⟩⟩
     ·exact⟨j::e,f,v,.inr ⟨fun a=>p (k.1 a),B p⟩⟩
    cases x with
    | true=>
     have g:=g rfl
     cases b with
     | true=>exact n _ (he.known a hv) (fun _=>g) (fun h=>absurd rfl h)
     | false=>exact n _ (he.known a hv) (fun h=>by cases h) (fun _=>g)
    | false=>
     have g:=F rfl
     cases b with
     | true=>exact n _ (he.known a hv) (fun h=>by cases h) (fun _=>g)
     | false=>exact n _ (he.known a hv) (fun _=>g) (fun h=>absurd rfl h)
def upd(a:Nat->Value)(i:Nat)(v:Value):Nat->Value:=fun j=>if j=i then v else a j
theorem QLt(a:Nat->Value)(i:Nat)(v:Value):upd a i v i=v:=by simp[upd]
theorem QOn{a:Nat->Value}{i j:Nat}{v:Value}(h:j≠i):upd a i v j=a j:=by simp[upd,h]
theorem QNg{i:Nat}{v:Value}{o:Oper}{k:Nat}(c:QD4 N ops k o)(d:∀m∈QBB o,m∈X)(hi:i∉X):QHt (upd V i v) o↔QHt V o:=by
 unfold QHt
 cases a:o.guard with
 | none=>exact Iff.rfl
 | some gb=>
  obtain⟨g,b⟩:=gb;have:=d g (c.guard g b a).1
  (try simp only)
  rw[QOn (j:=g) (fun e=>hi (by rw[<-e];exact this))]
theorem Src.upd{i k:Nat}{v:Value}{o:Oper}{ρ:Env}(h:Src ops ρ0 X V k o ρ)(hi:i∉X):Src ops ρ0 (i::X) (upd V i v) k o ρ:=by
 intro x hx;obtain⟨h1,c⟩:=h x hx;refine⟨h1,fun t b=>?_⟩;rcases c t b with⟨u,d,f,g,l,hv,a⟩|m
 ·exact .inl ⟨u,d,f,g,l,by rw[hv,QOn (j:=u) (fun e=>hi (by rw[<-e];exact a))],Wz _ a⟩
 ·exact .inr m
theorem EnvOK.put{ρ:Env}{i:Nat}{o:Oper}{v:Value}(he:EnvOK ops ρ0 X V ρ)(hi:i∉X)(l:ops[i]? = some o):EnvOK ops ρ0 (i::X) (upd V i v) (Cf.put ρ o.dst v):=by
 intro t b;by_cases a:o.dst=some t
 ·refine .inl ⟨i,o,W5 ..,l,a,?_⟩;rw[QLt,a];simp[Cf.put,QCv]
 ·have g:has ρ t=true/\gv (Cf.put ρ o.dst v) t=gv ρ t:=by
   cases h:o.dst with
   | none=>rw[h]at b;exact⟨b,rfl⟩
   | some d=>
    rw[h]at b a
    have s:Nat.beq d t=false:=by
     cases hb:Nat.beq d t with
     | false=>rfl
     | true=>rw[Wo hb]at a;exact absurd rfl a
    simp only[Cf.put,QDC,QCv,s,cond_false]at b|-;exact⟨b,trivial⟩
  rw[g.2];rcases he t g.1 with⟨j,m,hj,n,p,hv⟩|⟨h1,q,r⟩
  ·exact .inl ⟨j,m,Wz _ hj,n,p,by rw[hv,QOn (j:=j) (fun e=>hi (by rw[<-e];exact hj))]⟩
  ·refine .inr ⟨h1,q,fun k ok c f=>?_⟩;rcases W7.1 c with rfl|c
   ·rw[l]at f;cases f;exact a
   ·exact r k ok c f
theorem QKu{ρ:Env}{i:Nat}{o:Oper}(he:EnvOK ops ρ0 X V ρ)(hn:QCo (QOc ops)=true)(A:QD4 N ops i o)(k:OrdOK ops X)(B:ops[i]? = some o)(C:∀m∈QBB o,m∈X)(hi:i∉X)(l:QTv N ρ o=true) :
  Src ops ρ0 X V i o ρ:=by
 intro x hx;simp only[QTv,Wf,Ot]at l;refine⟨l.1.1 x (Si hx),fun t q=>?_⟩;subst q;have w:has ρ t=true:=l.1.1 (.tmp t) (Si hx);have j:=A.reads _ hx;have y:∀r,QB5 r (QBX (QCO ops []) i)=true->r∈X:=QH9 (D:=(· ∈ X)) (fun a b c d=>k.closed a b c d) i o B C;rcases he t w with⟨u,f,n,e,g,hv⟩|⟨h1,s,v⟩
 ·refine .inl ⟨u,f,e,g,?_,hv,n⟩;simp only[QWC,QJC hn e g,Wf,Oz]at j;rcases j.2 with h|h
  ·exact h
  ·exact absurd (QH9 (D:=(· ∈ X)) (fun a b c d=>k.closed a b c d) u f e (k.closed u f n e) i h) hi
 ·refine .inr ⟨h1,s,fun u f e g=>?_⟩;have z:u∉X:=fun h=>v u f h e g
  have p:QB5 u (QBX (QCO ops []) i)=false:=by
   cases hb:QB5 u (QBX (QCO ops []) i) with
   | false=>rfl
   | true=>exact absurd (y u hb) z
  simp only[QWC,QJC hn e g,p,Bool.false_or,Wf]at j;exact⟨p,j.2⟩
theorem Pend.upd{w:World}{i k:Nat}{v:Value}{o:Oper}(f:QD4 N ops k o)(g:∀m∈QBB o,m∈X)(hi:i∉X)(j:k∈X)(h:Pend P ops ρ0 X V w k o):Pend P ops ρ0 (i::X) (Cf.upd V i v) w k o:=by
 have d:k≠i:=fun e=>hi (by rw[<-e];exact j);unfold Pend at h|-;rw[QNg f g hi,QOn d];rcases h with⟨a,ρ,b,c⟩|h
 ·exact .inl ⟨a,ρ,b.upd hi,c⟩
 ·exact .inr h
def QcW:St->Prop
 | .nul _ _=>False
 | _=>True
theorem QaK{D:Nat->Prop}{w:World}{K:Env->WP}(hn:QCo (QOc ops)=true)(E:∀i o,ops[i]? = some o->QD4 N ops i o):∀(S:St) {X:Af}{f:Nat->Value}{l:Af}{ρ:Env},
  Can P ops ρ0 D w X f ρ->(∀i,D i->i∈X)->QGI P ops (QCO ops []) S X []=true->QBv P N ops S l ρ K w ->
  ∃j X' V' dec' g,Can P ops ρ0 D w X' V' g/\(∀i∈X,i∈X'/\V' i=f i)/\QGI P ops (QCO ops []) j X' []=true/\QBv P N ops j dec' g K w/\QcW j:=by
 intro S
 induction S with
 | done=>intro X f l ρ hc _ d h;exact⟨.done,X,f,l,ρ,hc,fun i hi=>⟨hi,rfl⟩,d,h,trivial⟩
 | eff e cs S _=>intro X f l ρ hc _ d h;exact⟨.eff e cs S,X,f,l,ρ,hc,fun i hi=>⟨hi,rfl⟩,d,h,trivial⟩
 | alt a b _ _=>intro X f l ρ hc _ d h;exact⟨.alt a b,X,f,l,ρ,hc,fun i hi=>⟨hi,rfl⟩,d,h,trivial⟩
 | nul i S ih=>
   intro X f l ρ hc H d h;simp only[QGI]at d;simp only[QBv]at h
   cases n:ops[i]? with
   | none=>rw[n]at d;simp at d
   | some o=>
    rw[n]at d h;simp only[Wf,W2,Ot]at d;obtain⟨_,⟨⟨B,L⟩,M⟩,d⟩:=d
    have q:i∉X:=fun u=>by rw[QBg.2 u]at B;cases B
    have r:∀m∈QBB o,m∈X:=fun m F=>QBg.1 (M m F);have t:=E i o n
    have C:∀(s:Env) (v:Value) (A:Af),EnvOK ops ρ0 X f s->Pend P ops ρ0 (i::X) (upd f i v) w i o->QBv P N ops S A (Cf.put s o.dst v) K w ->
      ∃j X' V' dec' g,Can P ops ρ0 D w X' V' g/\(∀i∈X,i∈X'/\V' i=f i)/\QGI P ops (QCO ops []) j X' []=true/\QBv P N ops j dec' g K w/\QcW j:=by
     intro s v A I J h1
     have W:Can P ops ρ0 D w (i::X) (upd f i v) (Cf.put s o.dst v):=by
      refine⟨.cons (fun o' z=>by rw[n]at z;cases z;exact r) hc.ord,fun k c=>?_,I.put q n,fun k ok c G p=>?_⟩
      ·rcases W7.1 c with rfl|c
       ·exact⟨o,n⟩
       ·exact hc.xb k c
      ·rcases W7.1 c with rfl|c
       ·rw[n]at p;cases p;exact J
       ·exact (hc.pend k ok c G p).upd (E k ok p) (hc.ord.closed k ok c p) q c
     obtain⟨j,X',V',dec',g,h1,O,R⟩:=ih W (fun k c=>Wz _ (H k c)) d h1;refine⟨j,X',V',dec',g,h1,fun k c=>?_,R⟩;have:=O k (Wz _ c);exact⟨this.1,by rw[this.2,QOn (fun e=>q (by rw[<-e];exact c))]⟩
    obtain⟨dec',g,x,T⟩:=QLR hc.env hn t r h;rcases T with⟨y,p,h1⟩|⟨y,h1⟩
    ·obtain⟨v,c,U,hl⟩:=QYo L h1;refine C g v dec' x (.inl ⟨(QNg t r q).2 y,g,?_,by rw[QLt];exact⟨U,hl⟩⟩) c;exact (QKu x hn t hc.ord n r q p).upd q
    ·exact C g undef dec' x (.inr ⟨fun u=>y ((QNg t r q).1 u),QLt ..⟩) h1
theorem Qcv{l:Af}(h:(!(QeH l))=true):l≠[]:=by
 intro e;subst e;simp[QeH]at h
theorem QVW{w:World}{K:Env->WP}{m:Af}{ρ:Env}:∀(S:St) {X c:Af},QGI P ops (QCO ops []) S X c=true->QBv P N ops S m ρ K w->∀i∈QIn S,
  ∃cs t d,QGI P ops (QCO ops []) (.eff i cs t) X d=true/\QBv P N ops (.eff i cs t) m ρ K w/\∀k∈d,k∈QIn S\/k∈c:=by
 intro S
 induction S with
 | done=>intro X c _ _ i hi;cases hi
 | nul i S _=>intro X c _ _ i hi;cases hi
 | eff e cs t _=>
  intro X c g h i hi;simp only[QIn,Oe]at hi;subst hi;exact⟨cs,t,c,g,h,fun k f=>.inr f⟩
 | alt a b iha ihb=>
  intro X c g h i hi;simp only[QGI,Wf]at g;simp only[QBv,QZP]at h;simp only[QIn,W4]at hi|-;rcases hi with hi|hi
  ·obtain⟨cs,t,d,h1,j,l⟩:=iha g.1.2 h.1 i hi;refine⟨cs,t,d,h1,j,fun k f=>?_⟩;rcases l k f with h|h
   ·exact .inl (.inl h)
   ·rcases W4.1 h with h|h
    ·exact .inl (.inr h)
    ·exact .inr h
  ·obtain⟨cs,t,d,h1,j,l⟩:=ihb g.2 h.2 i hi;refine⟨cs,t,d,h1,j,fun k f=>?_⟩;rcases l k f with h|h
   ·exact .inl (.inr h)
   ·rcases W4.1 h with h|h
    ·exact .inl (.inl h)
    ·exact .inr h
theorem QZn{S:St}{X:Af}(d:QGI P ops (QCO ops []) S X []=true)(f:QcW S):S=.done\/∃i,i∈QIn S:=by
 cases S with
 | done=>exact .inl rfl
 | nul=>exact f.elim
 | eff e=>exact .inr ⟨e,by simp[QIn]⟩
 | alt a b=>
  simp only[QGI,Wf]at d;have:=Qcv d.1.1.1
  cases c:QIn a with
  | nil=>exact absurd c this
  | cons i r=>exact .inr ⟨i,by simp[QIn,c]⟩
theorem QTZ:∀(vs:Ad) (b:Addr) (i:Nat) (a:Ad) (K:WP) (w:World),QQp vs b i K w ->
  (∀w',KeepsC w w'->(loadCellsFrom b i vs.length a.reverse.toArray).run P w'=.ok (a.reverse++vs).toArray w')/\K w:=by
 intro vs
 induction vs with
 | nil=>intro b i a K w h;exact⟨fun _ _=>by simp[loadCellsFrom],h⟩
 | cons v vs ih=>
  intro b i a K w h;obtain⟨hv,h⟩:=h;obtain⟨h1,d⟩:=ih b (i+1) (v::a) K w h;refine⟨fun w' c=>?_,d⟩;simp only[Wl,loadCellsFrom,Sem.run_bind,run_load,c _ _ hv,Result.andThen_ok]
  have e:(a.reverse.toArray.push v)=(v::a).reverse.toArray:=by simp
  rw[e,h1 w' c];simp
theorem QT2{t:TypeId}{e:Addr}{v:Value}{K:WP}{w:World}(h:QUw P t e v K w):(∀w',KeepsC w w'->(Instr.loadAt t (.pointer (some e))).run P w'=.ok v w')/\K w:=by
 unfold QUw at h
 cases b:QBy P t with
 | true=>
  rw[b]at h;simp only[cond_true]at h;obtain⟨d,a⟩:=QC4 b;cases v <;> (try exact h.elim)
  rename_i cs
  simp only at h
  cases hsz:QIU P t with
  | none=>rw[hsz]at h;exact h.elim
  | some n=>
   rw[hsz]at h;obtain⟨hb,h⟩:=QAG h;have hb:=Wo hb;obtain⟨h1,f⟩:=QTZ (P:=P) cs.toList e 0 [] K w h;refine⟨fun w' c=>?_,f⟩;have h1:=h1 w' c;simp only[Instr.loadAt,Instr.sureAddr,Sem.run_bind,Sem.run_pure,Result.andThen_ok,loadVar,QCE a,b,O7,QEP hsz,loadCells];rw[hb];simp only[List.reverse_nil,W6]at h1;rw[h1];rfl
 | false=>
  rw[b]at h;simp only[cond_false]at h
  cases a:P.underlying t with
  | none=>rw[a]at h;exact h.elim
  | some d=>
   rw[a]at h;obtain⟨hv,h⟩:=h;refine⟨fun w' c=>?_,h⟩;simp only[Instr.loadAt,Instr.sureAddr,Sem.run_bind,Sem.run_pure,Result.andThen_ok,loadVar,QCE a,b,Wi,Oa,run_load,c _ _ hv]
theorem QX9{i:Af}{ρ:Env}{K:WP}{w:World}:∀(cs:Af),QPu P ops i ρ K cs w->K w/\∀r∈cs,∃o,ops[r]? = some o /\
  (QQa ops i ρ o.guard=some false\/(QQa ops i ρ o.guard=some true/\∃t x d g,o.op=.load t x/\o.dst=some d/\ev ρ x=.pointer (some g)/\QNX ρ x=true/\has ρ d=true/\∀w',KeepsC w w'->(Instr.loadAt t (.pointer (some g))).run P w'=.ok (gv ρ d) w')):=by
 intro cs
 induction cs with
 | nil=>intro h;exact⟨h,fun r j=>by cases j⟩
 | cons r cs ih=>
  intro h;simp only[QPu]at h
  cases e:ops[r]? with
  | none=>rw[e]at h;exact h.elim
  | some o=>
   rw[e]at h;simp only at h
   cases f:QQa ops i ρ o.guard with
   | none=>rw[f]at h;exact h.elim
   | some b=>
    rw[f]at h
    cases b with
    | false=>
     obtain⟨h1,l⟩:=ih h;refine⟨h1,fun k a=>?_⟩;rcases W7.1 a with rfl|a
     ·exact⟨o,e,.inl f⟩
     ·exact l k a
    | true=>
     simp only at h;cases m:o.op <;> (try (rw[m]at h;exact h.elim))
     rename_i t x
     rw[m]at h;simp only at h
     cases c:o.dst with
     | none=>rw[c]at h;exact h.elim
     | some d=>
     cases hx:ev ρ x <;> (try (rw[c,hx]at h;exact h.elim))
     rename_i q
     cases q with
     | none=>rw[c,hx]at h;exact h.elim
     | some g=>
     rw[c,hx]at h;obtain⟨hb,h⟩:=QAG h;simp only[Wf]at hb;obtain⟨j,h⟩:=QT2 h;obtain⟨h1,l⟩:=ih h;refine⟨h1,fun k a=>?_⟩;rcases W7.1 a with rfl|a
     ·exact⟨o,e,.inr ⟨f,t,x,d,g,m,c,hx,hb.1,hb.2,j⟩⟩
     ·exact l k a
end
end Go.Cf
namespace Go.Cf
open Go
section
variable [Pan] {P:Program}{rn:Option Nat}{dl:List Deferred}{N:Nat}{ops:Array Oper}{ρ0:Env}{Fr:Act->Prop}{Q:Exit->Act->World->Prop}
theorem QKO{listed:Array Bool}{i:Nat}(hl:listed.size=ops.toList.length):i∈Region.ready .any ops listed ↔
  ¬Dn listed i/\∃o,ops.toList[i]? = some o/\∀m∈QBB o,Dn listed m:=by
 rw[mem_ready]
 have d:∀m,listed.getD m false=true↔Dn listed m:=by
  intro m;unfold Dn;rw[O4];cases listed[m]? <;> simp
 constructor
 ·rintro⟨h0,o,a,b⟩;refine⟨fun h=>?_,o,Si a,fun m c=>?_⟩
  ·unfold Dn at h;rw[O4,h]at h0;cases h0
  ·simp only[QBB,Uz,Up]at c;obtain⟨e,⟨he,hb⟩,rfl⟩:=c;exact (d _).1 (b e (Si he) hb)
 ·rintro⟨h0,o,a,b⟩
  have f:ops[i]? = some o:=Si a
  refine⟨?_,o,f,fun e he hb=>(d _).2 (b e.on ?_)⟩
  ·have g:i<listed.size:=by
    rw[hl];exact (Wc.1 a).1
   unfold Dn at h0
   rw[O4,O9 g]at *
   simp only[Uy]
   cases hb:listed[i]with
   | false=>rfl
   | true=>rw[hb]at h0;exact absurd rfl h0
  ·simp only[QBB,Uz,Up];exact⟨e,⟨Si he,hb⟩,rfl⟩
theorem QKE{listed:Array Bool}{i k:Nat}(hi:i<listed.size):Dn (listed.setIfInBounds i true) k↔k=i\/Dn listed k:=by
 unfold Dn;by_cases e:i=k
 ·subst e;rw[Uj hi];simp
 ·rw[Oj e];constructor
  ·exact .inr
  ·rintro (h|h)
   ·exact absurd h.symm e
   ·exact h
theorem Act1.step{listed:Array Bool}{a:Act}{X:Af}{r V':Nat->Value}{X':Af}(h:Act1 dl N ops.toList ρ0 Fr listed a X r)(hn:QCo (QOc ops.toList)=true)
  (w:Leaves ops.toList Fr) {i:Nat}{o:Oper}(l:ops.toList[i]? = some o) (x:QD4 N ops.toList i o) (y:¬Dn listed i) (z:∀m∈QBB o,Dn listed m)
  (A:∀k∈X,k∈X') (hi:i∈X') (B:∀k,Dn listed k->V' k=r k):Act1 dl N ops.toList ρ0 Fr (listed.setIfInBounds i true) (a.put o.dst (V' i)) X' V':=by
 have j:i<listed.size:=by rw[h.lsize];exact (Wc.1 l).1
 have q:∀t,o.dst≠some t->(a.put o.dst (V' i)).tmps[t]? = a.tmps[t]?:=by
  intro t g
  cases f:o.dst with
  | none=>rfl
  | some d=>
   have s:d≠t:=fun e=>g (by rw[f,e]);simp only[Act.put];rw[Oj s]
 have u:∀t,o.dst=some t->(a.put o.dst (V' i)).tmps[t]? = some (V' i):=by
  intro t g;rw[g];simp only[Act.put];exact Uj (Ug (x.dst t g) h.size)
 refine⟨Si h.lsize,fun k b=>?_,fun k ok b c m n=>?_,?_,?_,w o (Wp l) _ _ h.fr,fun k ok t b c f=>?_,fun t g p=>?_⟩
 ·rcases (QKE j).1 b with rfl|b
  ·exact hi
  ·exact A k (h.dx k b)
 ·rw[QKE j];rcases (QKE j).1 b with rfl|b
  ·rw[l]at c;cases c;exact .inr (z m n)
  ·exact .inr (h.dcl k ok b c m n)
 ·cases f:o.dst<;>simpa [Act.put]using h.size
 ·cases f:o.dst<;>exact h.defs
 ·rcases (QKE j).1 b with rfl|b
  ·rw[l]at c;cases c;exact u t f
  ·rw[q t (fun e=>?_),h.vals k ok t b c f,B k b];have:=QIt hn c l f e;exact y (by rw[<-this];exact b)
 ·have v:o.dst≠some t:=p i o ((QKE j).2 (.inl rfl)) l;rw[q t v];exact h.base t g fun k ok b c=>p k ok ((QKE j).2 (.inr b)) c
theorem QRG{listed:Array Bool}{a:Act}{X:Af}{j:Nat->Value}(h:Act1 dl N ops.toList ρ0 Fr listed a X j){i:Nat}{o:Oper}{ρ:Env}(v:ops.toList[i]? = some o)(w:¬Dn listed i)
  (y:∀m∈QBB o,Dn listed m) (z:Src ops.toList ρ0 X j i o ρ):∀x∈o.op.operands,a.eval x=ev ρ x:=by
 intro x hx;obtain⟨A,hc⟩:=z x hx
 cases x with
 | tmp t=>
  have g:=QH9 (D:=Dn listed) (fun a b c d=>h.dcl a b c d)
  have key:a.tmps[t]? = some (gv ρ t):=by
   rcases hc t rfl with⟨u,n,p,f,q,hv,_⟩|⟨h1,r,s⟩
   ·rw[hv];exact h.vals u n t (g i o v y u q) p f
   ·rw[r];refine h.base t h1 fun k ok l e f=>?_;exact w (g k ok e (h.dcl k ok l e) i (s k ok e f).2)
  simp[Act.eval,ev,O4,key]
 | _=>rfl
theorem QYP{listed:Array Bool}{a:Act}{X:Af}{c:Nat->Value}(h:Act1 dl N ops.toList ρ0 Fr listed a X c){i:Nat}{o:Oper}(q:QD4 N ops.toList i o)
  (r:∀m∈QBB o,Dn listed m):Region.wanted o (yielded ops a.tmps)=true↔QHt c o:=by
 unfold Region.wanted QHt
 cases p:o.guard with
 | none=>simp
 | some gb=>
  obtain⟨g,b⟩:=gb;obtain⟨k,d,l⟩:=q.guard g b p;obtain⟨e,f,j⟩:=QID l;have hv:=h.vals g e d (r g k) f j
  have n:ops[g]? = some e:=Si f
  simp only[yielded,n,Option.bind_some,j,hv];cases c g<;>simp
theorem count_set{listed:Array Bool}{i:Nat}(hi:i<listed.size)(a:¬Dn listed i):(listed.setIfInBounds i true).toList.count true=listed.toList.count true+1:=by
 rw[Array.toList_setIfInBounds,List.count_set (Si hi)]
 have:listed.toList[i]'(Si hi)=false:=by
  unfold Dn at a;rw[O9 hi]at a;simp only[Array.getElem_toList]
  cases hb:listed[i]with
  | false=>rfl
  | true=>rw[hb]at a;exact absurd rfl a
 simp[this]
theorem QhX{listed:Array Bool}(h:listed.toList.count true=listed.size):∀i,i<listed.size->Dn listed i:=by
 intro i hi;have:=(List.count_eq_length.1 (Si h)) (listed.toList[i]'(Si hi)) (U7 _);unfold Dn;rw[O9 hi];simp only[Array.getElem_toList]at this;rw[<-this]
theorem QgI{listed:Array Bool}{X:Af}(hl:listed.size=ops.toList.length)(f:Region.ready .any ops listed=[])(g:OrdOK ops.toList X)(d:∀i∈X,∃o,ops.toList[i]? = some o):∀i∈X,Dn listed i:=by
 induction g with
 | nil=>intro i hi;cases hi
 | @cons x X hx _ ih=>
  have b:=ih fun i hi=>d i (Wz _ hi);intro i hi;rcases W7.1 hi with rfl|hi
  ·obtain⟨o,a⟩:=d i (W5 ..);by_cases c:Dn listed i
   ·exact c
   ·have:i∈Region.ready .any ops listed:=(QKO hl).2 ⟨c,o,a,fun m e=>b m (hx o a m e)⟩;rw[f]at this;cases this
  ·exact b i hi
set_option maxHeartbeats 1000000 in
theorem Qgt(e4:QHG P)(a2:PanQ dl Fr Q)(hn:QCo (QOc ops.toList)=true)(a1:∀i o,ops.toList[i]? = some o->QD4 N ops.toList i o)(e5:Leaves ops.toList Fr){K:Env->WP}
  (g':∀ρ a w,Fits N dl ρ a->Fr a->K ρ w->Q .normal a w) :
  ∀(H:Nat) (listed:Array Bool) (a:Act) (w:World) (S:St) (X:Af) (G:Nat->Value) (W:Af) (ρ:Env),
   listed.toList.count true+H=ops.toList.length->Act1 dl N ops.toList ρ0 Fr listed a X G->Can P ops.toList ρ0 (Dn listed) w X G ρ ->
   QGI P ops.toList (QCO ops.toList []) S X []=true->QBv P N ops.toList S W ρ K w->wpAnyIn (FF rn) 0 P .any ops Q H listed a w:=by
 -- where all is done
 have d2:∀(listed:Array Bool) (a:Act) (w:World) (S:St) (X:Af) (G:Nat->Value) (W:Af) (ρ:Env),Act1 dl N ops.toList ρ0 Fr listed a X G->Can P ops.toList ρ0 (Dn listed) w X G ρ ->
   QGI P ops.toList (QCO ops.toList []) S X []=true->QBv P N ops.toList S W ρ K w->QcW S->Region.ready .any ops listed=[]->Q .normal a w:=by
  intro listed a w S X G W ρ f R y h hS Z;have d3:=QgI f.lsize Z R.ord R.xb;rcases QZn y hS with rfl|⟨e,he⟩
  ·refine g' ρ a w ⟨f.size,f.defs,fun t e6=>?_⟩ f.fr h;rcases R.env t e6 with⟨i,o,hi,g,q,hv⟩|⟨h1,I,b8⟩
   ·rw[hv];exact f.vals i o t (d3 i hi) g q
   ·rw[I];exact f.base t h1 fun i o hi g=>b8 i o (f.dx i hi) g
  ·obtain⟨cs,t,c5,y,_,_⟩:=QVW S y h e he;simp only[QGI]at y
   cases g:ops.toList[e]? with
   | none=>rw[g]at y;cases y
   | some o=>
    rw[g]at y;simp only[Wf,W2,Ot]at y
    have h1:e∉X:=fun Y=>by
     have:=y.1.1.1.1.1;rw[QBg.2 Y]at this;cases this
    have:e∈Region.ready .any ops listed:=(QKO f.lsize).2 ⟨fun q=>h1 (f.dx e q),o,g,fun m O=>d3 m (QBg.1 (y.1.1.1.1.2 m O))⟩;rw[Z]at this;cases this
 intro H
 induction H with
 | zero=>
  intro listed a w S X G W ρ e7 f R y h;have q:=QhX (listed:=listed) (by rw[f.lsize];omega)
  have Z:Region.ready .any ops listed=[]:=by
   cases g9:Region.ready .any ops listed with
   | nil=>rfl
   | cons i r=>
    have:i∈Region.ready .any ops listed:=by rw[g9];exact W5 ..
    obtain⟨h1,o,g,_⟩:=(QKO f.lsize).1 this;exact absurd (q i (by rw[f.lsize];exact (Wc.1 g).1)) h1
  obtain⟨T,X',V',dec',a3,n,a0,s,A,a4⟩:=QaK hn a1 S R f.dx y h;have p:Act1 dl N ops.toList ρ0 Fr listed a X' V':=⟨f.lsize,fun i hi=>(a0 i (f.dx i hi)).1,f.dcl,f.size,f.defs,f.fr,fun i o t hi g q=>by rw[(a0 i (f.dx i hi)).2];exact f.vals i o t hi g q,f.base⟩;exact⟨Z,d2 listed a w T X' V' dec' a3 p n s A a4 Z⟩
 | succ H ih=>
  intro listed a w S X G W ρ e7 f R y h;obtain⟨T,X',V',dec',a3,n,a0,s,A,a4⟩:=QaK hn a1 S R f.dx y h;have p:Act1 dl N ops.toList ρ0 Fr listed a X' V':=⟨f.lsize,fun i hi=>(a0 i (f.dx i hi)).1,f.dcl,f.size,f.defs,f.fr,fun i o t hi g q=>by rw[(a0 i (f.dx i hi)).2];exact f.vals i o t hi g q,f.base⟩;refine⟨d2 listed a w T X' V' dec' a3 p n s A a4,fun i hi=>?_⟩;obtain⟨J,o,g,E⟩:=(QKO f.lsize).1 hi
  have a9:i<listed.size:=by rw[f.lsize];exact (Wc.1 g).1
  have d4:ops[i]? = some o:=Si g
  have F:=a1 i o g
  have c3:(listed.setIfInBounds i true).toList.count true+H=ops.toList.length:=by rw[count_set a9 J];omega
  have a':=QYP p F E;by_cases B:i∈X'
  ·-- it was met ahead
   have c4:wpAnyIn (FF rn) 0 P .any ops Q H (listed.setIfInBounds i true) (a.put o.dst (V' i)) w:=by
    refine ih _ _ w T X' V' dec' a3 c3 (p.step hn e5 g F J E (fun k j=>j) B fun _ _=>rfl) ⟨n.ord,n.xb,n.env,fun k ok j C l=>n.pend k ok j (fun q=>C ((QKE a9).2 (.inr q))) l⟩ s A
   unfold wpOpIn;simp only[d4];rcases n.pend i o B J g with⟨U,h5,f5,c8,_⟩|⟨U,c9⟩
   ·rw[We (a'.2 U)];refine QIF (QSK (c8 w (KeepsC.refl w))) ?_;unfold Oper.wp;rw[execOp_congr o F.sel (QRG p g J E f5),c8 w (KeepsC.refl w)];exact c4
   ·rw[Wb (fun Y=>U (a'.1 Y))];rw[c9]at c4;exact⟨fun _ _=>trivial,c4⟩
  ·-- the next one that changes the world
   have g3:i∈QIn T:=by
    have d5:i∈List.range ops.toList.length:=by rw[Kh];exact (Wc.1 g).1
    rcases QZn s a4 with rfl|⟨e,he⟩
    ·simp only[QGI,Wf,Ot]at s;exact absurd (QBg.1 (s.2 i d5)) B
    ·obtain⟨cs,t,c5,L,_,e9⟩:=QVW T s A e he;simp only[QGI]at L
     cases e2:ops.toList[e]? with
     | none=>rw[e2]at L;cases L
     | some oe=>
      rw[e2]at L;simp only[Wf,W2,Ot]at L;have:=L.1.1.1.2 i d5;simp only[Oz,g,List.any_eq_true,W2]at this;rcases this with (h|h)|⟨m,O,h⟩
      ·exact absurd (QBg.1 h) B
      ·rcases W7.1 (QBg.1 h) with rfl|h
       ·exact he
       ·rcases e9 i h with h|h
        ·exact h
        ·cases h
      ·have:=p.dx m (E m O);rw[QBg.2 this]at h;cases h
   obtain⟨cs,b7,c5,L,e',_⟩:=QVW T s A i g3;clear s A;have s:=L;have A:=e'
   ·simp only[QGI]at s;simp only[QBv]at A
    ·rw[g]at s A;simp only[Wf,W2,Ot]at s;obtain⟨⟨⟨⟨⟨h0,h2⟩,h3⟩,b6⟩,f0⟩,c6⟩:=s;have b0:∀m∈QBB o,m∈X':=fun m O=>p.dx m (E m O);obtain⟨a5,M,a6,f1⟩:=QLR n.env hn F b0 A;have g4:=QH9 (D:=Dn listed) (fun a b c d=>p.dcl a b c d)
     have d6:∀(v:Value) (z:World),(∀k ok,k∈X'->¬Dn listed k->ops.toList[k]? = some ok->Pend P ops.toList ρ0 (i::X') (upd V' i v) z k ok) ->
       Can P ops.toList ρ0 (Dn (listed.setIfInBounds i true)) z (i::X') (upd V' i v) (put M o.dst v):=by
      intro v z a2;refine⟨.cons (fun o' h=>by rw[g]at h;cases h;exact b0) n.ord,fun k j=>?_,a6.put B g,fun k ok j C l=>?_⟩
      ·rcases W7.1 j with rfl|j
       ·exact⟨o,g⟩
       ·exact n.xb k j
      ·rcases W7.1 j with rfl|j
       ·exact absurd ((QKE a9).2 (.inl rfl)) C
       ·exact a2 k ok j (fun q=>C ((QKE a9).2 (.inr q))) l
     have d7:∀v,Act1 dl N ops.toList ρ0 Fr (listed.setIfInBounds i true) (a.put o.dst v) (i::X') (upd V' i v):=by
      intro v;have:=p.step (V':=upd V' i v) (X':=i::X') hn e5 g F J E (fun k j=>Wz _ j) (W5 ..) (fun k j=>QOn fun e=>J (by rw[<-e];exact j));rw[QLt]at this;exact this
     unfold wpOpIn;simp only[d4];rcases f1 with⟨U,l,h1⟩|⟨U,h1⟩
     ·rw[We (a'.2 U)]
      have d8:∀(b5:Bool) (v:Value) (z:World),(b5=true->KeepsC w z)->(∀k,k∈X'->QLy ops.toList k=true->QB5 k (QBX (QCO ops.toList []) i)=true\/QB5 k cs=true\/b5=true) ->
        QPu P ops.toList a5 (put M o.dst v) (QBv P N ops.toList b7 a5 (put M o.dst v) K) cs z->wpAnyIn (FF rn) 0 P .any ops Q H (listed.setIfInBounds i true) (a.put o.dst v) z:=by
       intro b5 v z e8 b6 I;obtain⟨b8,f2⟩:=QX9 cs I;refine ih _ _ z b7 (i::X') (upd V' i v) a5 (put M o.dst v) c3 (d7 v) (d6 v z fun k ok j C l=>?_) c6 b8;have d9:=a1 k ok l;have d':∀m∈QBB ok,m∈X':=n.ord.closed k ok j l;have h8:k≠i:=fun e=>B (by rw[<-e];exact j);have c1:=(n.pend k ok j C l).upd (v:=v) d9 d' B j;rcases c1 with⟨b9,b',c0,f6,hlk⟩|c1
       ·cases hl:QFB ok with
        | false=>
         rcases hlk with hlk|hlk
         ·rw[hl]at hlk;cases hlk
         ·exact .inl ⟨b9,b',c0,fun w' _=>hlk w',.inr hlk⟩
        | true=>
         refine .inl ⟨b9,b',c0,?_,.inl hl⟩;rcases b6 k j (by simp only[QLy,l,hl]) with hc|hc|hc
         ·exact absurd (g4 i o g E k hc) C
         ·have e0:=QBg.1 hc;have e1:=(f0 k e0).2;simp only[l,Wf]at e1;obtain⟨h4,c7,f3⟩:=f2 k e0;rw[l]at c7;cases c7;have b1:EnvOK ops.toList ρ0 (i::X') (upd V' i v) (put M o.dst v):=a6.put B g;have g5:∀m∈QBB ok,m∈i::X':=fun m O=>Wz _ (d' m O);rcases f3 with c'|⟨c',t,x,d,h6,c2,q,hx,d0,f7,f8⟩
          ·exact absurd ((QPd b1 hn d9 g5 c').1 b9) Zl
          ·have g6:gv (put M o.dst v) d=upd V' i v k:=b1.at hn (Wz _ j) l q f7
           have g7:x∈ok.op.operands:=by rw[c2];simp[Op.operands]
           have g8:ev b' x=ev (put M o.dst v) x:=by
            cases x with
            | tmp t'=>
             simp only[ev];have b2:=e1.2;simp only[Qep,c2]at b2;obtain⟨_,f4⟩:=c0 _ g7;rcases f4 t' rfl with⟨u,d1,a7,a8,_,f9,f'⟩|⟨h7,g0,g1⟩
             ·rw[f9];exact (b1.at hn f' a7 a8 d0).symm
             ·rw[g0];rcases b1 t' d0 with⟨u,d1,c9,a7,a8,_⟩|⟨_,g2,_⟩
              ·simp only[Qbv,QJC hn a7 a8]at b2;rw[(g1 u d1 a7 a8).1]at b2;cases b2
              ·exact g2.symm
            | _=>rfl
           intro w' b3;simp only[execOp,c2,g8,hx,Sem.run_bind,f8 w' b3,Result.andThen_ok,Sem.run_pure,g6]
         ·exact fun w' b3=>f6 w' ((e8 hc).trans b3)
       ·exact .inr c1
      cases e3:QJ4 o with
      | false=>
       refine (QQw e4 (fun w' b4=>a2 a w' p.defs p.fr b4) F.sel (QRG p g J E (QKu a6 hn F n.ord g b0 B l)) h1 ?_);intro v z I;refine d8 false v z (fun h=>by cases h) (fun k j hl=>?_) I;have hc:=b6 k j;simp only[hl,e3,K5,Bool.false_or,Lo,Oz]at hc;rcases hc with hc|hc
       ·exact .inl hc
       ·exact .inr (.inl hc)
      | true=>
       refine (QQw e4 (fun w' b4=>a2 a w' p.defs p.fr b4) F.sel (QRG p g J E (QKu a6 hn F n.ord g b0 B l)) (QVN e3 h1) ?_);intro v z I;exact d8 true v z (fun _=>I.2) (fun k j hl=>.inr (.inr rfl)) I.1
     ·rw[Wb (fun Y=>U (a'.1 Y))];refine⟨fun _ _=>trivial,?_⟩;refine ih _ _ w b7 (i::X') (upd V' i undef) a5 (put M o.dst undef) c3 (d7 undef) (d6 undef w fun k ok j C l=>?_) c6 h1;exact (n.pend k ok j C l).upd (a1 k ok l) (n.ord.closed k ok j l) B j
theorem QWm(k:QHG P)(l:PanQ dl Fr Q)(m:P.follows .mixedOrders=true){id:Nat}{S:St}{a:Act}{w:World}{K:Env->WP}{ρ:Env}(hc:QgF P N ops.toList (QCO ops.toList []) S=true)
  (h:QBv P N ops.toList S [] ρ K w.drew) (d:Fits N dl ρ a) (n:Leaves ops.toList Fr) (hfr:Fr a) (p:∀ρ a w,Fits N dl ρ a->Fr a->K ρ w->Q .normal a w):(Code.region id ops true).wpIn (FF rn) 0 P Q a w:=by
 simp only[QgF,Wf]at hc;obtain⟨⟨hn,f⟩,g⟩:=hc;refine wpIn_region_any m ?_
 have j:∀i o,ops.toList[i]? = some o->QD4 N ops.toList i o:=fun i o e=>by
  have:=QXR rfl ops.toList 0 f i o e;simpa using this
 have c:∀i,¬Dn (Array.replicate ops.size false) i:=fun i hi=>by
  unfold Dn at hi;rw[Array.getElem?_replicate]at hi;split at hi<;>simp at hi
 refine Qgt (ρ0:=ρ) (Fr:=Fr) k l hn j n p ops.size _ a _ S [] (fun _=>undef) [] ρ ?_ ?_ ?_ g h
 ·simp[List.count_replicate]
 ·exact⟨by simp,fun i hi=>absurd hi (c i),fun i o hi=>absurd hi (c i),d.size,d.defs,hfr,fun i o t hi=>absurd hi (c i),fun t b _=>d.get t b⟩
 ·exact⟨.nil,fun i hi=>(by cases hi),fun t b=>.inr ⟨b,rfl,fun i o hi=>(by cases hi)⟩,fun i o hi=>(by cases hi)⟩
end
theorem QVP{dl:List Deferred}{N:Nat}{ρ:Env}{cs:Af}{l:List Oper}(h:∀t,QB5 t (QIY (l.filter fun o=>match o.dst with|some t=>has ρ t|none=>false) [])=true->QB5 t cs=true):Leaves l (Keep N dl ρ cs):=by
 intro o g a v b
 cases f:o.dst with
 | none=>exact b
 | some t=>
  refine⟨by simpa [Act.put]using b.size,b.defs,fun u d c=>?_⟩
  have i:t≠u:=by
   intro e;subst e;have:=h t ((QKl _ _).2 (.inr ⟨o,by simp only[Up];exact⟨g,by rw[f];exact d⟩,f⟩));rw[this]at c;cases c
  simp only[Act.put];rw[Oj i];exact b.get u d c
theorem Keep.fits'{dl:List Deferred}{N:Nat}{ρ:Env}{cs:Af}{a:Act}(c:Keep N dl ρ cs a)(f:Nat->Value)(g:∀t,QB5 t cs=true->a.tmps[t]? = some (f t)):Fits N dl (QOB cs (cs.map f) ρ) a:=
 ⟨c.size,c.defs,fun t d=>by
  cases b:QB5 t cs with
  | true=>rw[QZT cs b];exact g t b
  | false=>
   obtain⟨h1,e⟩:=QRX (ρ:=ρ) cs (cs.map f) b;rw[h1]at d;rw[e]
   exact c.get t d b⟩
theorem QMH[Pan]{P:Program}(l:QHG P)(m:P.follows .mixedOrders=true)(fn:Func)(N:Nat):QN3 P N (QLm P fn N):=by
 intro rn dl id ops Fr ρ q a w Q e h d f hfr g;unfold QLm at h;simp only[QRe,QPM,QBn,QaJ]at h;obtain⟨hc,h⟩:=QAG h
 cases k:QeW ops.toList (QVf P ops.toList (QCO ops.toList []) (ops.toList.length+1) ((List.range ops.toList.length).filter fun i=>!(QQ5 P ops.toList i)) [] []) with
 | false=>
  rw[k]at h;exact QWm l e m hc h d f hfr g
 | true=>
  rw[k]at h;simp only[cond_true,QBW]at h
  refine QWm (Fr:=fun a=>Fr a/\Keep N dl ρ (QN0 (QZr fn ops.toList) (QIY (ops.toList.filter fun o=>match o.dst with|some t=>has ρ t|none=>false) [])) a) l (e.of fun _ h=>h.1) m hc h d
   (f.and (QVP fun t c=>(QNy _ _).2 (.inr c))) ⟨hfr,d.keep _⟩ ?_
  intro r s w' n j b;obtain⟨p,b⟩:=QAG b;obtain⟨t,c,b⟩:=Cur.appV_app _ _ _ _ b;rw[Cur.app_of,c]at b;exact g _ _ _ (j.2.fits' _ (QFs n p)) j.1 b
def QfB(P:Program):Bool:=P.funcs.toList.all fun fn=>!(fn.name == "runtime.NumGoroutine")
theorem QdH{P:Program}(h:QfB P=true):QHG P:=fun g fn a=>by
 have:=Ot.1 h fn (by
  have:P.funcs.toList[g]? = some fn:=Si a
  exact Wp this)
 simpa using this
theorem QLv{P:Program}(a:QHG P)(d:P.follows .mixedOrders=true){f:FuncId}{fn:Func}(e:P.funcs[f]? = some fn){dp:Af}{args:Ad}{rs:Rs}{ss:List Sh}
  (g:QAW P fn.resultTypes.toList=(rs,ss)) {K:Cur ss}{w:World}(h:wpF P dp (QLm P fn) fn args ss K w):QAX P f args rs ss K w:=by
 obtain⟨rfl,rfl⟩:(QAW P fn.resultTypes.toList).1=rs/\(QAW P fn.resultTypes.toList).2=ss:=by rw[g];exact⟨rfl,rfl⟩
 exact QLM a (fun N=>QMH a d fn N) e h (fun t w' b=>⟨t,rfl,b⟩) fun _ c=>c.elim
theorem QZq[Pan]{P:Program}(a:QHG P)(d:P.follows .mixedOrders=true){f:FuncId}{fn:Func}(e:P.funcs[f]? = some fn){dp:Af}{args:Ad}{rs:Rs}{ss:List Sh}
  (g:QAW P fn.resultTypes.toList=(rs,ss)) {K:Cur ss}{w:World}(h:wpF P dp (QLm P fn) fn args ss K w):QGy P f args rs ss K w:=by
 obtain⟨rfl,rfl⟩:(QAW P fn.resultTypes.toList).1=rs/\(QAW P fn.resultTypes.toList).2=ss:=by rw[g];exact⟨rfl,rfl⟩
 exact QLM a (fun N=>QMH a d fn N) e h (fun t w' b=>.inl ⟨t,rfl,b⟩) fun _ c=>.inr ⟨rfl,c⟩
end Go.Cf
