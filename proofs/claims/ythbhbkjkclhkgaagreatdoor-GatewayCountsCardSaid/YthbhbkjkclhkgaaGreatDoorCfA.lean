/-
A reading of Go's operations as a formula over worlds, computed out of the code by 'wpF', and the proof that the formula gives a contract of the call.
-/
import Derived.OrdersIn
import Derived.LoopNIn
import Derived.RangeFuncRecord
import Derived.KernelRfl
import Derived.Laws.World
import Derived.Laws.Slices
import Derived.Laws.Entries
import Derived.Laws.Tables
set_option linter.defProp false
theorem Om{p:Prop}(h:p:=by omega):p:=h
theorem Dc{p:Prop}(h:p:=by decide):p:=h
theorem Kr{p:Prop}(h:p:=by kernel_rfl):p:=h
theorem Dk{p:Prop}(h:p:=by decide +kernel):p:=h
theorem Si{p q:Prop}(a:q)(h:q->p:=by intro a;simpa using a):p:=h a
def Wa:=@List.getElem?_eq_getElem
def Wb:=@if_neg
def Wc:=@List.getElem?_eq_some_iff
def Wd:=@List.length_append
def We:=@if_pos
def Wf:=@Bool.and_eq_true
def Wg:=@Option.some.injEq
def Wh:=@Int.toNat_natCast
def Wi:=@Bool.false_eq_true
def Wj:=@List.getElem?_append_left
def Wk:=@List.append_assoc
def Wl:=@List.length_cons
def Wm:=@List.eq_nil_of_length_eq_zero
def Wn:=@List.take_of_length_le
def Wo:=@Nat.eq_of_beq_eq_true
def Wp:=@List.mem_of_getElem?
def Wq:=@decide_eq_true_eq
def Wr:=@List.getElem?_append_right
def Ws:=@List.drop_eq_getElem_cons
def Wt:=@Nat.le_refl
def Wu:=@List.take_append_drop
def Wv:=@ne_of_beq_false
def Ww:=@List.length_take
def Wx:=@decide_eq_false_iff_not
def Wy:=@List.getElem?_set_self
def Wz:=@List.mem_cons_of_mem
def W0:=@List.getD_eq_getElem?_getD
def W1:=@Int.eq_ofNat_of_zero_le
def W2:=@Bool.not_eq_true'
def W3:=@Option.some.inj
def W4:=@List.mem_append
def W5:=@List.mem_cons_self
def W6:=@List.nil_append
def W7:=@List.mem_cons
def W8:=@List.length_singleton
def W9:=@Array.getElem?_eq_some_iff
def Oa:=@if_false
def Ob:=@List.length_set
def Oc:=@List.length_drop
def Oe:=@List.mem_singleton
def Of:=@List.pairwise_append
def Og:=@List.take_add_one
def Oh:=@List.mem_iff_getElem?
def Oi:=@List.append_nil
def Oj:=@Array.getElem?_setIfInBounds_ne
def Ol:=@List.getElem?_map
def On:=@bne_iff_ne
def Oo:=@Bool.eq_iff_iff
def Oq:=@Nat.le_trans
def Ot:=@List.all_eq_true
def Ou:=@List.mem_or_eq_of_mem_set
def Ov:=@List.getElem?_cons_zero
def Ow:=@Nat.min_eq_left
def Ox:=@of_decide_eq_true
def Oy:=@List.getElem?_set_ne
def Oz:=@Bool.or_eq_true
def O0:=@Bool.or_eq_false_iff
def O1:=@List.length_replicate
def O2:=@Classical.not_not
def O3:=@List.length_map
def O4:=@Array.getD_eq_getD_getElem?
def O5:=@Option.isSome_iff_exists
def O6:=@List.Perm.refl
def O7:=@if_true
def O8:=@List.length_nil
def O9:=@Array.getElem?_eq_getElem
def Ua:=@Nat.zero_le
def Ub:=@UInt8.toNat_ofNat'
def Uc:=@Bool.and_eq_false_iff
def Ud:=@Array.getElem?_append_left
def Ue:=@Nat.le_add_right
def Uf:=@List.ext_getElem?
def Ug:=@Nat.lt_of_lt_of_le
def Uh:=@congrArg
def Ui:=@List.getElem?_eq_none
def Uj:=@Array.getElem?_setIfInBounds_self_of_lt
def Uk:=@List.take_length
def Ul:=@List.cons_append
def Um:=@Int.tdiv_eq_ediv_of_nonneg
def Uo:=@Int.le_refl
def Up:=@List.mem_filter
def Uq:=@not_true_eq_false
def Ur:=@Nat.sub_self
def Us:=@List.mem_append_right
def Ut:=@List.getElem?_take_of_lt
def Uu:=@List.foldl_append
def Uv:=@of_decide_eq_false
def Uw:=@List.map_append
def Ux:=@Nat.mul_le_mul_right
def Uy:=@Option.getD_some
def Uz:=@List.mem_map
def U0:=@Int.tmod_eq_emod_of_nonneg
def U1:=@beq_eq_false_iff_ne
def U2:=@Nat.add_le_add_left
def U3:=@List.flatMap_cons
def U4:=@Option.map_some
def U5:=@List.set_append_right
def U6:=@List.take_append_of_le_length
def U7:=@List.getElem_mem
def U9:=@List.map_cons
def Za:=@List.filter_cons_of_pos
def Zb:=@Nat.lt_or_ge
def Zc:=@List.set_set
def Zd:=@Bool.eq_false_iff
def Ze:=@decide_eq_false
def Zf:=@List.flatMap_append
def Zg:=@List.drop_of_length_le
def Zh:=@List.drop_eq_nil_of_le
def Zi:=@UInt8.lt_iff_toNat_lt
def Zj:=@List.getElem?_toArray
def Zk:=@List.getElem?_drop
def Zl:=@Bool.false_ne_true
def Zm:=@List.mem_of_mem_take
def Zn:=@List.mem_of_mem_drop
def Zo:=@List.mem_of_getLast?
def Zp:=@List.mem_append_left
def Zq:=@beq_iff_eq
def Zr:=@List.foldl_cons
def Zs:=@List.drop_left'
def Zt:=@Array.ext'
def Zu:=@Nat.lt_irrefl
def Zv:=@Nat.le_mul_of_pos_right
def Zw:=@List.length_eq_zero_iff
def Zx:=@List.filter_cons_of_neg
def Zy:=@Array.length_toList
def Zz:=@List.getLast?_eq_some_getLast
def Z0:=@List.drop_left
def Z1:=@Int.toNat_zero
def Z2:=@List.takeWhile_sublist
def Z3:=@List.filter_eq_nil_iff
def Z4:=@Array.getElem?_push_lt
def Z5:=@Option.isSome_none
def Z6:=@Nat.eq_zero_or_pos
def Z7:=@List.pairwise_cons
def Z8:=@UInt8.toNat_inj
def Z9:=@Nat.zero_add
def Ka:=@Nat.succ_mul
def Kb:=@Nat.le_of_ble_eq_true
def Kc:=@List.range_succ
def Kd:=@List.length_filter_le
def Ke:=@Array.getElem?_modify
def Kf:=@Int.fdiv_eq_ediv_of_nonneg
def Kg:=@List.pairwise_iff_getElem
def Kh:=@List.mem_range
def Ki:=@List.mem_of_find?_eq_some
def Kj:=@List.getLast?_eq_none_iff
def Kk:=@List.drop_zero
def Kl:=@Nat.le_succ
def Km:=@List.length_pos_iff
def Ko:=@List.filter_eq_self
def Kq:=@Nat.add_zero
def Ks:=@decide_eq_true_iff
def Ku:=@Nat.add_sub_cancel_left
def Kv:=@List.take_left'
def Kw:=@List.getElem?_cons_succ
def Kx:=@List.filter_append
def Ky:=@List.length_range
def Kz:=@List.drop_append_of_le_length
def K4:=@List.dropLast_concat_getLast
def K5:=@Bool.not_true
def K6:=@Nat.blt_eq
def K7:=@bne_eq_false_iff_eq
def K8:=@List.replicate_succ
def K9:=@List.getElem?_range
def La:=@List.drop_succ_cons
def Lb:=@List.takeWhile_cons_of_pos
def Lc:=@List.takeWhile_cons_of_neg
def Ld:=@List.set_cons_zero
def Le:=@List.map_set
def Lf:=@Bool.not_eq_false'
def Lg:=@List.take_left
def Lh:=@List.drop_drop
def Li:=@Classical.byContradiction
def Lj:=@Array.mapM_eq_mapM_toList
def Lk:=@List.mem_of_mem_eraseIdx
def Ll:=@Bool.eq_false_or_eq_true
def Lm:=@Prod.mk.injEq
def Ln:=@Nat.add_assoc
def Lo:=@Bool.or_false
abbrev Ab:=List UInt8
abbrev Ac:=Option Go.Addr
abbrev Ad:=List Go.Value
abbrev Ae:=List Int
abbrev Af:=List Nat
abbrev Ag:=List (List UInt8)
set_option linter.unusedSectionVars false
namespace Go.Cf
open Go
set_option linter.unusedSimpArgs false
abbrev FF(rn:Option Nat):Fence:={ fn:=fun _=>True,depth:=none,alive:=false,round:=rn }
theorem QY9{rn:Option Nat}{P:Program}{m m':Machine}:StepsIn (Machine.fenced P (FF rn)) P m m'↔Steps P m m':=stepsIn_wide
theorem QGF{rn:Option Nat}{n:Nat}{P:Program}{f:FuncId}{args:Array Value}{w:World}{R:Ending->World->Prop}:CallsIn (FF rn) n P f args w R↔Calls P f args w R:=callsIn_wide (n:=n)
theorem QbJ{rn:Option Nat}{n:Nat}{P:Program}{a:String}{args:Array Value}{w:World}{R:Value->World->Prop}(h:Rows P a args w R):RowsIn (FF rn) n P a args w R:=
 fun c cs _=>let ⟨v,w',r,s⟩:=h c cs;⟨v,w',r,QY9.2 s⟩
theorem QIF{rn:Option Nat}{P:Program}{o:Oper}{a:Act}{w:World}{next:Act->World->Prop}{Q:Exit->Act->World->Prop}(d:∀c,o.op≠.defer c)(h:o.wp P a w next Q):o.wpIn (FF rn) 0 P a w next Q:=by
 refine⟨fun _ _=>trivial,?_⟩;rw[Oper.semAt_eq _ _ _ d];unfold Oper.wp at h;generalize (execOp a.eval o).run P w=r at h|-;unfold Oper.upon at h;split at h
 ·exact h
 ·exact h
 ·exact h
 ·exact⟨fun h=>(by cases h),QGF.2 h⟩
 ·exact⟨fun h=>(by cases h),QbJ h⟩
 ·exact h
 ·exact h.elim
abbrev WP:=World->Prop
structure Sl where
 p:Ac
 n:Nat
 c:Nat
inductive Sh where
 | int (k:IntKind)
 | bool
 | str
 | ptr
 | slice
 | map
 | val
abbrev Sh.ty:Sh->Type
 | .int _=>Int
 | .bool=>Bool
 | .str=>ByteArray
 | .ptr=>Ac
 | .slice=>Sl
 | .map=>Option Nat
 | .val=>Value
abbrev Sl.v(s:Sl):Value:=.slice s.p s.n s.c
abbrev Sh.mk:(s:Sh)->s.ty->Value
 | .int k,x=>.int k x
 | .bool,x=>.bool x
 | .str,x=>.string x
 | .ptr,x=>.pointer x
 | .slice,x=>x.v
 | .map,x=>.map x
 | .val,x=>x
def Sh.un:(s:Sh)->Value->Option s.ty
 | .int k,.int k' x=>if k=k' then some x else none
 | .bool,.bool x=>some x
 | .str,.string x=>some x
 | .ptr,.pointer x=>some x
 | .slice,.slice p n c=>some ⟨p,n,c⟩
 | .map,.map x=>some x
 | .val,x=>some x
 | _,_=>none
theorem Sh.mk_un{s:Sh}{v:Value}{x:s.ty}(h:s.un v=some x):s.mk x=v:=by
 cases s<;>cases v<;>simp only[Sh.un,Wg,reduceCtorEq]at h<;>first
  | (subst h;rfl)
  | (split at h<;>first|(rename_i a;subst a;simp only[Wg]at h;subst h;rfl)|cases h)
def QcH:Value->Sh
 | .int k _=>.int k
 | .bool _=>.bool
 | .string _=>.str
 | .pointer _=>.ptr
 | .slice _ _ _=>.slice
 | .map _=>.map
 | _=>.val
abbrev Tup:List Sh->Type
 | []=>Unit
 | s::ss=>s.ty×Tup ss
def Tup.vals:(ss:List Sh)->Tup ss->Ad
 | [],_=>[]
 | s::ss,t=>s.mk t.1::Tup.vals ss t.2
abbrev Cur:List Sh->Type
 | []=>WP
 | s::ss=>s.ty->Cur ss
def Cur.of:(ss:List Sh)->(Ad->WP)->Cur ss
 | [],f=>f []
 | s::ss,f=>fun x=>Cur.of ss fun vs=>f (s.mk x::vs)
def Cur.ofT:(ss:List Sh)->(Tup ss->WP)->Cur ss
 | [],f=>f ()
 | _::ss,f=>fun x=>Cur.ofT ss fun t=>f (x,t)
def Cur.app:(ss:List Sh)->Cur ss->Tup ss->WP
 | [],k,_=>k
 | _::ss,k,t=>Cur.app ss (k t.1) t.2
def Cur.appV:(ss:List Sh)->Cur ss->Ad->WP
 | [],k,[]=>k
 | s::ss,k,v::vs=>match s.un v with
  | some x=>Cur.appV ss (k x) vs
  | none=>fun _=>False
 | _,_,_=>fun _=>False
theorem Cur.app_of(ss:List Sh):∀(f:Ad->WP) (t:Tup ss),Cur.app ss (Cur.of ss f) t=f (Tup.vals ss t):=by
 induction ss with
 | nil=>intro f t;rfl
 | cons s ss ih=>intro f t;exact ih _ _
theorem Cur.app_ofT(ss:List Sh):∀(f:Tup ss->WP) (t:Tup ss),Cur.app ss (Cur.ofT ss f) t=f t:=by
 induction ss with
 | nil=>intro f t;rfl
 | cons s ss ih=>intro f t;exact ih _ _
theorem Cur.appV_app(ss:List Sh):∀(k:Cur ss) (vs:Ad) (w:World),Cur.appV ss k vs w->∃t,Tup.vals ss t=vs/\Cur.app ss k t w:=by
 induction ss with
 | nil=>
  intro k vs w h
  cases vs with
  | nil=>exact⟨(),rfl,h⟩
  | cons=>exact h.elim
 | cons s ss ih=>
  intro k vs w h
  cases vs with
  | nil=>exact h.elim
  | cons v vs=>
   have h:(match s.un v with|some x=>Cur.appV ss (k x) vs|none=>fun _=>False) w:=h
   cases hx:s.un v with
   | none=>rw[hx]at h;exact h.elim
   | some x=>
    rw[hx]at h;obtain⟨t,a,h⟩:=ih _ _ _ h;exact⟨(x,t),by simp only[Tup.vals,a,Sh.mk_un hx],h⟩
def fK(k:IntKind)(f:IntKind->WP):WP:=match k with
 | .i8=>f .i8
 | .i16=>f .i16
 | .i32=>f .i32
 | .i64=>f .i64
 | .u8=>f .u8
 | .u16=>f .u16
 | .u32=>f .u32
 | .u64=>f .u64
def fSh(s:Sh)(f:Sh->WP):WP:=match s with
 | .int k=>fK k fun k=>f (.int k)
 | .bool=>f .bool
 | .str=>f .str
 | .ptr=>f .ptr
 | .slice=>f .slice
 | .map=>f .map
 | .val=>f .val
def fSs:List Sh->(List Sh->WP)->WP
 | [],f=>f []
 | s::r,f=>fSh s fun s=>fSs r fun r=>f (s::r)
theorem Qgb(k:IntKind)(f:IntKind->WP):fK k f=f k:=by cases k<;>rfl
theorem QBj(s:Sh)(f:Sh->WP):fSh s f=f s:=by
 cases s<;>first|rfl|exact Qgb _ fun k=>f (.int k)
theorem QBn:∀(l:List Sh) (f:List Sh->WP),fSs l f=f l
 | [],_=>rfl
 | s::r,f=>by rw[fSs,QBj,QBn r]
def fNs:Af->(Af->WP)->WP
 | [],f=>f []
 | n::r,f=>fNs r fun r=>f (n::r)
theorem QPM:∀(l:Af) (f:Af->WP),fNs l f=f l
 | [],_=>rfl
 | n::r,f=>by rw[fNs,QPM r]
def fE:List (Nat×Value)->(List (Nat×Value)->WP)->WP
 | [],f=>f []
 | (t,v)::r,f=>fE r fun r=>f ((t,v)::r)
theorem QaJ:∀(l:List (Nat×Value)) (f:List (Nat×Value)->WP),fE l f=f l
 | [],_=>rfl
 | (t,v)::r,f=>by rw[fE,QaJ r]
def fVs:Ad->(Ad->WP)->WP
 | [],f=>f []
 | v::r,f=>fVs r fun r=>f (v::r)
theorem Qei:∀(l:Ad) (f:Ad->WP),fVs l f=f l
 | [],_=>rfl
 | n::r,f=>by rw[fVs,Qei r]
def fV(v:Value)(f:Value->WP):WP:=match v with
 | .int k n=>fK k fun k=>f (.int k n)
 | .bool b=>f (.bool b)
 | .string s=>f (.string s)
 | .pointer q=>f (.pointer q)
 | .slice p n c=>f (.slice p n c)
 | .agg ⟨l⟩=>fVs l fun l=>f (.agg ⟨l⟩)
 | v=>f v
theorem QDo(v:Value)(f:Value->WP):fV v f=f v:=by
 unfold fV;split
 ·exact Qgb _ fun k=>f (.int k _)
 ·rfl
 ·rfl
 ·rfl
 ·rfl
 ·exact Qei _ fun l=>f (.agg ⟨l⟩)
 ·rfl
def XIf(b:Bool)(A B:WP):WP:=fun w=>(b=true->A w)/\(b=false->B w)
def QKJ(p:Prop)(K:WP):WP:=fun w=>p/\K w
def QAn(s:Sh)(a:Addr)(K:s.ty->WP):WP:=fun w=>∃x,w.cell? a=some (s.mk x)/\K x w
def QBE(a:Addr)(v:Value)(K:WP):WP:=fun w=>(∃u,w.cell? a=some u)/\w.frozen? a=false/\v.oneCell'=true/\K (w.setCell a v)
def QCz(cs:Ad)(e:TypeId)(K:Nat->WP):WP:=fun w=>K w.heap.size (w.alloc (.cells cs.toArray e))
def QC3(q:Ac)(K:Addr->WP):WP:=fun w=>∃a,q=some a/\K a w
def QLG(q:Ac)(n:Nat)(i:Int)(sz:Nat)(K:Addr->WP):WP:=fun w=>∃a,q=some a/\0<=i/\i<n/\K (a.add (i.toNat*sz)) w
def Sl.cut(s:Sl)(l h m sz:Nat):Sl:=⟨if m=l then s.p else s.p.map (·.add (l*sz)),h - l,m - l⟩
def QOx(s:Sl)(l h m:Int)(sz:Nat)(K:Sl->WP):WP:=fun w=>0<=l/\l<=h/\h<=m/\m<=s.c/\K (s.cut l.toNat h.toNat m.toNat sz) w
def QM2(cs:Ad)(i:Int)(n:Nat)(s:Sh)(K:s.ty->WP):WP:=fun w=>0<=i/\i<n/\∃x,cs[i.toNat]? = some (s.mk x)/\K x w
def QIa(cs:Ad)(i:Int)(n sz:Nat)(ss:List Sh)(K:Cur ss):WP:=fun w=>0<=i/\i<n/\∃t:Tup ss,Tup.vals ss t=(cs.drop (i.toNat*sz)).take sz/\Cur.app ss K t w
def QcS(s:ByteArray)(l h:Int)(K:ByteArray->WP):WP:=fun w=>0<=l/\l<=h/\h<=s.size/\K (s.extract l.toNat h.toNat) w
def QOU(s:ByteArray)(i:Int)(K:Int->WP):WP:=fun w=>∃b,0<=i/\s[i.toNat]? = some b/\K b.toNat w
def QRM{P:Program}(s:Sem Value)(sh:Sh)(K:sh.ty->WP):WP:=fun w=>∃x w',s.run P w=.ok (sh.mk x) w'/\K x w'
abbrev QLu(P:Program)(s:Sem Value)(sh:Sh)(K:sh.ty->WP):WP:=QRM (P:=P) s sh K
abbrev QTn(P:Program)(t u ty:TypeId)(s x:Value)(K:Sl->WP):WP:=QLu P (Builtin.append_ #[t,u] ty #[s,x]) .slice K
abbrev QdQ(P:Program)(t u ty:TypeId)(s x:Value)(K:Int->WP):WP:=QLu P (Builtin.copy_ #[t,u] ty #[s,x]) (.int .i64) K
abbrev QeZ(P:Program)(t ty:TypeId)(s:Value)(K:Value->WP):WP:=QLu P (Builtin.clear_ #[t] ty #[s]) .val K
abbrev QiC(P:Program)(t:TypeId)(n c:Value)(K:Sl->WP):WP:=QLu P (Instr.makeSlice t n c) .slice K
def QJK{P:Program}(t:TypeId)(x i:Value)(s:Sh)(K:s.ty->Bool->WP):WP:=fun w=>∃v b w',(Instr.lookup t x i true).run P w=.ok (.tuple #[s.mk v,.bool b]) w'/\K v b w'
abbrev Qgw(P:Program)(t:TypeId)(x i:Value)(s:Sh)(K:s.ty->Bool->WP):WP:=QJK (P:=P) t x i s K
def QQn{P:Program}(t:TypeId)(m k x:Value)(K:WP):WP:=fun w=>∃w',(Instr.mapUpdate t m k x).run P w=.ok () w'/\K w'
abbrev Qjs(P:Program)(t:TypeId)(m k x:Value)(K:WP):WP:=QQn (P:=P) t m k x K
def QGM{P:Program}(v:Value)(ty:TypeId)(d:WP)(e:Int->Int->WP):WP:=fun w=>∃a w',(Instr.next v true ty).run P w=.ok a w'/\((a=.tuple #[.bool false]/\d w')\/∃i c,a=.tuple #[.bool true,.int .i64 i,.int .i32 c]/\e i c w')
abbrev Qb3(P:Program)(v:Value)(ty:TypeId)(a:WP)(c:Int->Int->WP):WP:=QGM (P:=P) v ty a c
def QD5(K:WP):WP:=fun w=>K w.drew
def QBW(ss:List Sh)(body:Cur ss->WP)(rest:Cur ss):WP:=body rest
def QEs(ss:List Sh)(body:Cur ss->Cur ss):Nat->Cur ss
 | 0=>Cur.ofT ss fun _ _=>False
 | n+1=>body (QEs ss body n)
def QFl(ss:List Sh)(body:Cur ss->Cur ss):Cur ss:=Cur.ofT ss fun t w=>∃n,Cur.app ss (QEs ss body n) t w
inductive Rs where
 | one
 | agg
 | tup (l:List (Option Nat))
def QYl:List (Option Nat)->Ad->Ad
 | [],_=>[]
 | none::l,v::vs=>v::QYl l vs
 | some n::l,vs=>.agg (vs.take n).toArray::QYl l (vs.drop n)
 | none::_,[]=>[]
def Rs.mk:Rs->Ad->Value
 | .one,vs=>vs.headD undef
 | .agg,vs=>.agg vs.toArray
 | .tup l,vs=>.tuple (QYl l vs).toArray
def QG1{P:Program}(f:FuncId)(args:Ad)(rs:Rs)(ss:List Sh)(K:Cur ss):WP:=fun w=>
 Calls P f args.toArray w fun e w'=>∃t,e=.returned (rs.mk (Tup.vals ss t))/\Cur.app ss K t w'
abbrev QAX(P:Program)(f:FuncId)(args:Ad)(rs:Rs)(ss:List Sh)(K:Cur ss):WP:=QG1 (P:=P) f args rs ss K
class Pan where
 may:Nat->Bool
 q:WP
 ch:List PanicEntry
instance (priority:=low) Pan.none:Pan:=⟨fun _=>false,fun _=>False,[]⟩
def QFk[Pan]{P:Program}(f:FuncId)(args:Ad)(rs:Rs)(ss:List Sh)(K:Cur ss):WP:=fun w=>
 Calls P f args.toArray w fun e w'=>(∃t,e=.returned (rs.mk (Tup.vals ss t))/\Cur.app ss K t w')\/(e=.panicked Pan.ch/\Pan.q w')
abbrev QGy[Pan](P:Program)(f:FuncId)(args:Ad)(rs:Rs)(ss:List Sh)(K:Cur ss):WP:=QFk (P:=P) f args rs ss K
def QQ4{P:Program}(g:FuncId)(args:Ad)(s:Sh)(K:s.ty->WP):WP:=fun w=>∃x w',(callFunc g args.toArray).run P w=.ok (.value (s.mk x)) w'/\K x w'
abbrev QiG(P:Program)(g:FuncId)(args:Ad)(s:Sh)(K:s.ty->WP):WP:=QQ4 (P:=P) g args s K
abbrev Env:=List (Nat×Value)
def gv:Env->Nat->Value
 | [],_=>undef
 | (u,v)::r,t=>bif Nat.beq u t then v else gv r t
def has:Env->Nat->Bool
 | [],_=>false
 | (u,_)::r,t=>bif Nat.beq u t then true else has r t
def ev(ρ:Env):Operand->Value
 | .tmp t=>gv ρ t
 | .const v=>v
 | .global g=>.pointer (some ⟨g,0,none⟩)
 | .func f=>.func (.func f) #[] #[]
def QNX(ρ:Env):Operand->Bool
 | .tmp t=>has ρ t
 | _=>true
def put(ρ:Env)(d:Option Nat)(v:Value):Env:=
 match d with
 | some d=>(d,v)::ρ
 | none=>ρ
def QA5(P:Program){α:Type}:Sem α->Option α
 | .pure a=>some a
 | .program k=>QA5 P (k P)
 | .mark _ k=>QA5 P k
 | _=>none
theorem QJF{P:Program}{α:Type}(s:Sem α):∀a,QA5 P s=some a->∀w,s.run P w=.ok a w:=by
 induction s with
 | pure a=>intro b h w;simp only[QA5,Wg]at h;subst h;rfl
 | program k ih=>intro b h w;exact ih _ b h w
 | mark m k ih=>intro b h w;exact ih b h w
 | _=>intro b h w;simp[QA5]at h
def Qd0(P:Program){α:Type}:List (Sem α)->Option (List α)
 | []=>some []
 | s::r=>match QA5 P s,Qd0 P r with
  | some a,some l=>some (a::l)
  | _,_=>none
def QBm(P:Program):Nat->TypeId->List Sh
 | 0,_=>[]
 | d+1,t=>match P.underlying t with
  | some (.int k)=>[.int k]
  | some .bool=>[.bool]
  | some .string=>[.str]
  | some (.pointer _)=>[.ptr]
  | some (.slice _)=>[.slice]
  | some (.map _ _)=>[.map]
  | some (.struct fs)=>fs.toList.flatMap fun f=>QBm P d f.type
  | some (.array n e)=>(List.replicate n (QBm P d e)).flatten
  | some _=>[.val]
  | none=>[]
def QIU(P:Program)(t:TypeId):Option Nat:=
 match P.info? t with
 | some i=>some i.size
 | none=>none
def QBy(P:Program)(t:TypeId):Bool:=
 match P.underlying t with
 | some (.struct _)=>true
 | some (.array _ _)=>true
 | _=>false
def QGd:List Sh->Addr->Nat->Ad->(Ad->WP)->WP
 | [],_,_,acc,K=>K acc.reverse
 | s::ss,a,i,acc,K=>fSh s fun s=>QAn s (a.add i) fun x=>QGd ss a (i+1) (s.mk x::acc) K
def QQG:Ad->Addr->Nat->WP->WP
 | [],_,_,K=>K
 | v::vs,a,i,K=>QBE (a.add i) v (QQG vs a (i+1) K)
def Qid:Value->Option Int
 | .int _ n=>some n
 | _=>none
def bad:WP:=fun _=>False
def bnd(ρ:Env)(x:Option Operand)(d:Int):Option Int:=
 match x with
 | none=>some d
 | some o=>Qid (ev ρ o)
def QGu(b:Bool):Bool:=!b
def QVz(a b:Bool):Bool:=a&&b
def vOr(a b:Bool):Bool:=a||b
def QZJ(x a b:Bool):Bool:=bif x then a else b
def vEq(x y:Int):Bool:=x == y
def vNe(x y:Int):Bool:=x != y
def vLt(x y:Int):Bool:=decide (x<y)
def vLe(x y:Int):Bool:=decide (x<=y)
def vGt(x y:Int):Bool:=decide (x>y)
def vGe(x y:Int):Bool:=decide (x>=y)
def QcC(k:IntKind)(x y:Int):Int:=k.wrap (x+y)
def QbV(k:IntKind)(x y:Int):Int:=k.wrap (x - y)
def Qb8(k:IntKind)(x y:Int):Int:=k.wrap (x*y)
def QCx(k:IntKind)(x y:Int):Int:=k.wrap (x.tdiv y)
def QCu(x y:Int):Int:=x.tmod y
def QIl(k:IntKind)(x y:Int):Int:=k.wrap (x*2 ^ (min y.toNat k.bits))
def QIj(k:IntKind)(x y:Int):Int:=x.fdiv (2 ^ (min y.toNat k.bits))
def QN7(op:BinOp)(k:IntKind)(x y:Int):Int:=
 let a:=BitVec.ofInt k.bits x
 let b:=BitVec.ofInt k.bits y
 k.wrap ((match op with|.and=>a &&& b|.or=>a ||| b|.xor=>a ^^^ b|_=>a &&& ~~~b:BitVec k.bits).toNat:Nat)
def QOJ(k:IntKind)(x:Int):Int:=k.wrap x
def QFq(n:Nat):Int:=n
def QIK(a b:Int):Int:=if b<a then b else a
def QIL(a b:Int):Int:=if b>a then b else a
def QZF(a b:Bool):Bool:=a == b
def QbC(a b:ByteArray):Bool:=a == b
def QI9(a b:ByteArray):ByteArray:=a++b
def tEq(a b:ByteArray):Bool:=a.toList == b.toList
def tLt(a b:ByteArray):Bool:=Op.bytesLess a.toList b.toList
def vOp(op:BinOp)(k:IntKind)(a b:Int):Value:=match op with
 | .add=>.int k (QcC k a b)
 | .sub=>.int k (QbV k a b)
 | .mul=>.int k (Qb8 k a b)
 | .eql=>.bool (vEq a b)
 | .neq=>.bool (vNe a b)
 | .lss=>.bool (vLt a b)
 | .leq=>.bool (vLe a b)
 | .gtr=>.bool (vGt a b)
 | .geq=>.bool (vGe a b)
 | op=>.int k (QN7 op k a b)
def Qfv:BinOp->Bool
 | .shl|.shr|.quo|.rem=>false
 | _=>true
def gvO:Env->Nat->Option Value
 | [],_=>some undef
 | (u,v)::r,t=>bif Nat.beq u t then some v else gvO r t
theorem Qe5:∀(ρ:Env) (t:Nat),gvO ρ t=some (gv ρ t)
 | [],_=>rfl
 | (u,v)::r,t=>by
  rw[gvO,gv];cases Nat.beq u t
  ·exact Qe5 r t
  ·rfl
def evO(ρ:Env):Operand->Option Value
 | .tmp t=>gvO ρ t
 | o=>some (ev ρ o)
theorem Qgi(ρ:Env)(o:Operand):evO ρ o=some (ev ρ o):=by
 cases o<;>first|rfl|exact Qe5 ..
def kpO{α:Type}(ρ:Env)(d:Option Nat)(v:Value)(f:Env->Option α):Option α:=match d with
 | some d=>f ((d,v)::ρ)
 | none=>f ρ
theorem Qh6{α:Type}(ρ:Env)(d:Option Nat)(v:Value)(f:Env->Option α):kpO ρ d v f=f (put ρ d v):=by cases d<;>rfl
def kp(K:Env->WP)(ρ:Env)(d:Option Nat)(v:Value):WP:=match d with
 | some d=>K ((d,v)::ρ)
 | none=>K ρ
theorem QCJ(K:Env->WP)(ρ:Env)(d:Option Nat)(v:Value):kp K ρ d v=K (put ρ d v):=by cases d<;>rfl
def pv(P:Program)(ρ:Env)(o:Oper):Option Value:=match o.op with
 | .move x=>evO ρ x
 | .makeFunc f a b=>some (.func f (a.toList.map (ev ρ)).toArray (b.toList.map (ev ρ)).toArray)
 | .call ⟨.builtin .len,as,ts⟩=>(match ts.toList,as.toList with
  | [t],[x]=>(match P.underlying t,ev ρ x with
   | some (.slice _),.slice _ n _=>some (.int .i64 (QFq n))
   | some .string,.string s=>some (.int .i64 (QFq s.size))
   | _,_=>none)
  | _,_=>none)
 | .binOp op xt x y _=>match ev ρ x,ev ρ y with
  | .int k a,.int k' b=>bif Qfv op&&decide (k=k') then some (vOp op k a b) else none
  | .string a,.string b=>(match op with
   | .eql=>some (.bool (tEq a b))
   | .neq=>some (.bool (QGu (tEq a b)))
   | .lss=>some (.bool (tLt a b))
   | .leq=>some (.bool (vOr (tLt a b) (tEq a b)))
   | .gtr=>some (.bool (QGu (vOr (tLt a b) (tEq a b))))
   | .geq=>some (.bool (QGu (tLt a b)))
   | _=>none)
  | .bool a,.bool b=>(match op,P.underlying xt with
   | .eql,some .bool=>some (.bool (QZF a b))
   | .neq,some .bool=>some (.bool (QGu (QZF a b)))
   | _,_=>none)
  | _,_=>none
 | .unOp .not _ x=>match ev ρ x with
  | .bool b=>some (.bool (QGu b))
  | _=>none
 | .unOp .neg _ x=>match ev ρ x with
  | .int k a=>some (.int k (QbV k 0 a))
  | _=>none
 | .unOp .xor _ x=>match ev ρ x with
  | .int k a=>some (.int k (QN7 .xor k (if k.signed then -1 else k.max) a))
  | _=>none
 | .convert s d x=>match P.underlying s,P.underlying d,ev ρ x with
  | some _,some (.int k),.int _ n=>some (.int k (QOJ k n))
  | _,_,_=>none
 | _=>none
def QYy(P:Program)(ρ:Env)(o:Oper):Option Next:=match pv P ρ o with
 | some v=>some (.value v)
 | none=>QA5 P (execOp (ev ρ) o)
def Qa2(x:Bool):Value->Value->Value
 | .bool a,.bool b=>.bool (bif x then a else b)
 | a,b=>bif x then a else b
def QYe(x:Bool)(a b:Operand)(c d:Value):Value:=match a,b,c,d with
 | .const (.bool true),_,.bool _,.bool v=>.bool (vOr x v)
 | _,.const (.bool false),.bool u,.bool _=>.bool (QVz x u)
 | _,_,.bool u,.bool v=>.bool (QZJ x u v)
 | _,_,c,d=>bif x then c else d
def callee(ρ:Env):Callee->Option (FuncId×Ad×Ad)
 | .value f=>match ev ρ f with
  | .func (.func g) first cap=>some (g,first.toList,cap.toList)
  | _=>none
 | _=>none
def QHj(ρ:Env):Callee->Option (Nat×Ad)
 | .value f=>match ev ρ f with
  | .func (.yield l) first _=>some (l,first.toList)
  | _=>none
 | _=>none
def QGX{P:Program}(l:Nat)(args:Ad)(K:Bool->WP):WP:=fun w=>
 ∃fn tmps assign body,(Instr.yield l args.toArray).run P w=.ok (.round l fn tmps assign body) w/\RoundIn (FF none) 0 P l fn tmps assign body w fun e w'=>∃b,e=.returned (.bool b)/\K b w'
abbrev QWj(P:Program)(l:Nat)(args:Ad)(K:Bool->WP):WP:=QGX (P:=P) l args K
def gvK:Env->Nat->(Value->WP)->WP
 | [],_,f=>f undef
 | (u,v)::r,t,f=>bif Nat.beq u t then f v else gvK r t f
theorem Qe2:∀(ρ:Env) (t:Nat) (f:Value->WP),gvK ρ t f=f (gv ρ t)
 | [],_,_=>rfl
 | (u,v)::r,t,f=>by
  rw[gvK,gv];cases Nat.beq u t
  ·exact Qe2 r t f
  ·rfl
def evK(ρ:Env)(o:Operand)(f:Value->WP):WP:=match o with
 | .tmp t=>gvK ρ t f
 | o=>f (ev ρ o)
theorem QBz(ρ:Env)(o:Operand)(f:Value->WP):evK ρ o f=f (ev ρ o):=by
 cases o<;>first|rfl|exact Qe2 ..
def QWJ:Operand->Bool
 | .const (.pointer none)=>true
 | .const (.slice none _ _)=>true
 | .const (.map none)=>true
 | _=>false
def QGZ:Value->Operand->Bool
 | .pointer _,.const (.pointer none)=>true
 | .slice _ _ _,.const (.slice none _ _)=>true
 | .map _,.const (.map none)=>true
 | _,_=>false
def QCy{α:Type}:Option α->Bool
 | none=>true
 | some _=>false
def Qed:Bool->Value->Option Bool
 | false,.nilIface=>some true
 | false,.iface _ _=>some false
 | true,.nilFunc=>some true
 | true,.func _ _ _=>some false
 | _,_=>none
def QIO(f:Bool)(v:Value)(K:Bool->WP):WP:=fun w=>∃b,Qed f v=some b/\K b w
def QgM(P:Program)(t:TypeId):Operand->Option Bool
 | .const .nilIface=>match P.underlying t with
  | some (.interface _)=>some false
  | _=>none
 | .const .nilFunc=>match P.underlying t with
  | some (.func _ _ _)=>some true
  | _=>none
 | _=>none
def QUs(P:Program)(t:TypeId):Value->Option Bool
 | .pointer q=>match P.underlying t with
  | some (.pointer _)=>some (QCy q)
  | _=>none
 | .slice q _ _=>match P.underlying t with
  | some (.slice _)=>some (QCy q)
  | _=>none
 | .map q=>match P.underlying t with
  | some (.map _ _)=>some (QCy q)
  | _=>none
 | _=>none
def QiM(P:Program)(t:TypeId):Rs×List Sh:=
 match P.underlying t with
 | some (.tuple ts)=>(.tup (ts.toList.map fun u=>bif QBy P u then some (QBm P 20 u).length else none),ts.toList.flatMap fun u=>QBm P 20 u)
 | _=>bif QBy P t then (.agg,QBm P 20 t) else (.one,QBm P 20 t)
def QBN(P:Program)(g:FuncId):Bool:=
 match P.funcs[g]? with
 | some fn=>fn.body.isSome
 | none=>false
def QE6:Ad->Nat->Ad->Ad
 | [],_,cs=>cs
 | v::vs,i,cs=>QE6 vs (i+1) (cs.set i v)
def QOY(place:Nat->Option (Nat×Nat)):Ad->List (Nat×Value)->Option Ad
 | cs,[]=>some cs
 | cs,(i,v)::r=>match place i with
  | some (off,size)=>bif Nat.beq v.cells.toList.length size&&Nat.ble (off+v.cells.toList.length) cs.length then QOY place (QE6 v.cells.toList off cs) r else none
  | none=>none
def QIp(P:Program):List Field->Option (List (Nat×Nat))
 | []=>some []
 | f::fs=>match QIU P f.type,QIp P fs with
  | some n,some l=>some ((f.offset,n)::l)
  | _,_=>none
def QFR(P:Program)(t:TypeId):Option Ad:=
 match P.info? t with
 | some i=>(match i.zero with|some z=>some z.cells.toList|none=>none)
 | none=>none
def QVn(P:Program)(t:TypeId)(parts:List (Nat×Value)):Option Ad:=
 match P.underlying t,QFR P t with
 | some (.struct fs),some z=>(match QIp P fs.toList with
  | some ps=>QOY (fun i=>ps[i]?) z parts
  | none=>none)
 | some (.array _ e),some z=>(match QIU P e with
  | some n=>QOY (fun i=>some (i*n,n)) z parts
  | none=>none)
 | _,_=>none
def QJI(z:Ad):Nat->Ad
 | 0=>[]
 | n+1=>z++QJI z n
def QNh(ρ:Env)(ps:List (Nat×Operand)):List (Nat×Value):=ps.map fun p=>(p.1,ev ρ p.2)
def QPO(P:Program)(t:TypeId)(x y:Value):Option Bool:=
 match P.underlying t,x,y with
 | some (.int _),.int k a,.int k' b=>bif decide (k=k') then some (vEq a b) else none
 | some .bool,.bool a,.bool b=>some (QZF a b)
 | some .string,.string a,.string b=>some (QbC a b)
 | _,_,_=>none
def QN1(P:Program)(t:TypeId)(xs:Ad)(off:Nat):Option Value:=
 bif QBy P t then (match QIU P t with
  | some n=>some (.agg ((xs.drop off).take n).toArray)
  | none=>none)
 else xs[off]?
def QEX(P:Program)(eqv:TypeId->Value->Value->Option Bool):List Field->Ad->Ad->Option Bool
 | [],_,_=>some true
 | f::fs,xs,ys=>bif !(f.name == "_") then (match QN1 P f.type xs f.offset,QN1 P f.type ys f.offset with
  | some x,some y=>(match eqv f.type x y,QEX P eqv fs xs ys with
   | some b,some r=>some (QVz b r)
   | _,_=>none)
  | _,_=>none) else none
def QOT(P:Program):Nat->TypeId->Value->Value->Option Bool
 | 0,t,x,y=>QPO P t x y
 | d+1,t,x,y=>match P.underlying t,x,y with
  | some (.struct fs),.agg xs,.agg ys=>bif !(P.stoodInHeld t) then QEX P (QOT P d) fs.toList xs.toList ys.toList else none
  | _,_,_=>QPO P t x y
def QRf(P:Program)(t:TypeId)(x y:Value):Option Bool:=
 match P.underlying t,x,y with
 | some (.struct fs),.agg xs,.agg ys=>bif !(P.eqGuardType P.depth t) && !(P.stoodInHeld t) then QEX P (QOT P 1) fs.toList xs.toList ys.toList else none
 | _,_,_=>none
def QBS[Pan](P:Program)(o:Oper)(ρ:Env)(K:Env->WP):WP:=
 let j:WP:=match QYy P ρ o with
  | some (.value v)=>kp K ρ o.dst (v)
  | _=>bad
 match o.op with
 | .move x=>evK ρ x fun v=>kp K ρ o.dst (v)
 | .assign x=>evK ρ x fun v=>kp K ρ o.dst (v)
 | .fieldAddr .. => (match QYy P ρ o with
  | some (.value v)=>fV v fun v=>kp K ρ o.dst (v)
  | _=>bad)
 | .load t a=>match ev ρ a with
  | .pointer (some ad) => bif QBy P t then
        (match QIU P t with
          | some n=>bif Nat.beq n (QBm P 20 t).length then QGd (QBm P 20 t) ad 0 [] fun vs=>kp K ρ o.dst ((.agg vs.toArray)) else bad
          | none=>bad)
    else match QBm P 20 t with
     | [s]=>fSh s fun s=>QAn s ad fun x=>kp K ρ o.dst ((s.mk x))
     | _=>bad
  | _=>bad
 | .store t a x=>match ev ρ a with
  | .pointer (some ad)=>match QIU P t with
   | some n=>bif Nat.beq n (ev ρ x).cells.toList.length then QQG (ev ρ x).cells.toList ad 0 (kp K ρ o.dst (undef)) else bad
   | none=>bad
  | _=>bad
 | .alloc e=>match (P.info? e).bind (·.zero) with
  | some z=>QCz z.cells.toList e fun b=>kp K ρ o.dst ((.pointer (some ⟨b,0,none⟩)))
  | none=>bad
 | .box e x=>QCz (ev ρ x).cells.toList e fun b=>kp K ρ o.dst ((.pointer (some ⟨b,0,none⟩)))
 | .nilCheck x=>match ev ρ x with
  | .pointer q=>QC3 q fun a=>kp K ρ o.dst ((.pointer (some a)))
  | _=>j
 | .indexAddr t x i=>match P.underlying t,ev ρ x,ev ρ i with
  | some (.slice e),.slice q n _,.int _ i=>match QIU P e with
   | some sz=>QLG q n i sz fun a=>kp K ρ o.dst ((.pointer (some a)))
   | none=>bad
  | some (.array n e),.pointer (some a),.int _ i=>match QIU P e with
   | some sz=>QLG (some a) n i sz fun a=>kp K ρ o.dst ((.pointer (some a)))
   | none=>bad
  | _,_,_=>bad
 | .index t x i=>match P.underlying t,ev ρ x,ev ρ i with
  | some .string,.string s,.int _ i=>QOU s i fun b=>kp K ρ o.dst ((.int .u8 b))
  | some (.array n e),.agg cs,.int _ i=>(match QIU P e,QBm P 20 e with
   | some 1,[s]=>bif !(QBy P e) then (fSh s fun s=>QM2 cs.toList i n s fun x=>kp K ρ o.dst ((s.mk x))) else bad
   | some sz,ss=>bif QBy P e&&Nat.beq sz ss.length then (fSs ss fun ss=>QIa cs.toList i n sz ss (Cur.of ss fun vs=>kp K ρ o.dst ((.agg vs.toArray)))) else bad
   | _,_=>bad)
  | _,_,_=>bad
 | .slice t x lo hi mx=>match P.underlying t,ev ρ x with
  | some (.slice e),.slice q n c=>match bnd ρ lo 0,bnd ρ hi (QFq n),bnd ρ mx (QFq c),QIU P e with
   | some l,some h,some m,some sz=>bif (mx.isNone||hi.isSome) then QOx ⟨q,n,c⟩ l h m sz fun s=>kp K ρ o.dst (s.v) else bad
   | _,_,_,_=>bad
  | some .string,.string s=>match bnd ρ lo 0,bnd ρ hi (QFq s.size),mx with
   | some l,some h,none=>QcS s l h fun s=>kp K ρ o.dst ((.string s))
   | _,_,_=>bad
  | some (.array n e),.pointer (some a)=>match lo,hi,mx,QIU P e with
   | none,none,none,some _=>kp K ρ o.dst ((.slice (some a) n n))
   | _,_,_,_=>bad
  | _,_=>bad
 | .binOp op xt x y _=>match op,ev ρ x,ev ρ y with
  | .quo,.int k a,.int k' b=>bif decide (k=k') then QKJ (b≠0) (kp K ρ o.dst ((.int k (QCx k a b)))) else bad
  | .rem,.int k a,.int k' b=>bif decide (k=k') then QKJ (b≠0) (kp K ρ o.dst ((.int k (QCu a b)))) else bad
  | .shl,.int k a,.int _ b=>QKJ (0<=b) (kp K ρ o.dst ((.int k (QIl k a b))))
  | .shr,.int k a,.int _ b=>QKJ (0<=b) (kp K ρ o.dst ((.int k (QIj k a b))))
  | .add,.string a,.string b=>QKJ (a.size+b.size<=9223372036854775807) (kp K ρ o.dst ((.string (QI9 a b))))
  | .eql,_,_=>bif QWJ y then (match QUs P xt (ev ρ x) with|some b=>bif QGZ (ev ρ x) y then kp K ρ o.dst ((.bool b)) else bad|none=>j) else (match QgM P xt y with|some f=>QIO f (ev ρ x) (fun b=>kp K ρ o.dst ((.bool b)))|none=>(match QRf P xt (ev ρ x) (ev ρ y) with|some b=>kp K ρ o.dst ((.bool b))|none=>j))
  | .neq,_,_=>bif QWJ y then (match QUs P xt (ev ρ x) with|some b=>bif QGZ (ev ρ x) y then kp K ρ o.dst ((.bool (QGu b))) else bad|none=>j) else (match QgM P xt y with|some f=>QIO f (ev ρ x) (fun b=>kp K ρ o.dst ((.bool (QGu b))))|none=>(match QRf P xt (ev ρ x) (ev ρ y) with|some b=>kp K ρ o.dst ((.bool (QGu b)))|none=>j))
  | _,_,_=>j
 | .pick c a b=>match ev ρ c with
  | .bool x=>kp K ρ o.dst ((QYe x a b (ev ρ a) (ev ρ b)))
  | _=>bad
 | .call c=>match c.callee with
  | .value _=>match callee ρ c.callee with
   | some (g,first,cap)=>
    let r:=QiM P o.type
    bif QBN P g then
     (bif Pan.may g then (fSs r.2 fun ss=>QGy P g (first++(c.args.toList.map (ev ρ))++cap) r.1 ss (Cur.of ss fun vs=>kp K ρ o.dst ((r.1.mk vs))))
     else (fSs r.2 fun ss=>QAX P g (first++(c.args.toList.map (ev ρ))++cap) r.1 ss (Cur.of ss fun vs=>kp K ρ o.dst ((r.1.mk vs)))))
    else (match r with
     | (.one,[s])=>fSh s fun s=>QiG P g (first++(c.args.toList.map (ev ρ))++cap) s fun x=>kp K ρ o.dst ((s.mk x))
     | _=>bad)
   | none=>match QHj ρ c.callee with
    | some (l,first)=>(match QiM P o.type with
     | (.one,[.bool])=>QWj P l (first++c.args.toList.map (ev ρ)) fun b=>kp K ρ o.dst ((.bool b))
     | _=>bad)
    | none=>bad
  | .builtin .append=>QLu P (Builtin.append_ c.argTypes o.type (c.args.toList.map (ev ρ)).toArray) .slice fun s=>kp K ρ o.dst (s.v)
  | .builtin .copy=>QLu P (Builtin.copy_ c.argTypes o.type (c.args.toList.map (ev ρ)).toArray) (.int .i64) fun s=>kp K ρ o.dst ((.int .i64 s))
  | .builtin .clear=>QLu P (Builtin.clear_ c.argTypes o.type (c.args.toList.map (ev ρ)).toArray) .val fun s=>kp K ρ o.dst (s)
  | .builtin .len=>match c.argTypes.toList,c.args.toList with
   | [t],[x]=>(match P.underlying t,ev ρ x with
    | some (.slice _),.slice _ n _=>kp K ρ o.dst ((.int .i64 (QFq n)))
    | some .string,.string s=>kp K ρ o.dst ((.int .i64 (QFq s.size)))
    | some (.array n _),_=>kp K ρ o.dst ((.int .i64 (QFq n)))
    | _,_=>j)
   | _,_=>j
  | .builtin .cap=>match c.argTypes.toList,c.args.toList with
   | [t],[x]=>(match P.underlying t,ev ρ x with
    | some (.slice _),.slice _ _ n=>kp K ρ o.dst ((.int .i64 (QFq n)))
    | _,_=>j)
   | _,_=>j
  | .builtin .min=>match c.args.toList with
   | [x,y]=>(match ev ρ x,ev ρ y with
    | .int k a,.int _ b=>kp K ρ o.dst ((.int k (QIK a b)))
    | _,_=>j)
   | [x,y,z]=>(match ev ρ x,ev ρ y,ev ρ z with
    | .int k a,.int k1 b,.int k2 c=>bif decide (k=k1)&&decide (k=k2) then kp K ρ o.dst ((.int k (QIK (QIK a b) c))) else bad
    | _,_,_=>j)
   | _=>j
  | .builtin .max=>match c.args.toList with
   | [x,y]=>(match ev ρ x,ev ρ y with
    | .int k a,.int _ b=>kp K ρ o.dst ((.int k (QIL a b)))
    | _,_=>j)
   | [x,y,z]=>(match ev ρ x,ev ρ y,ev ρ z with
    | .int k a,.int k1 b,.int k2 c=>bif decide (k=k1)&&decide (k=k2) then kp K ρ o.dst ((.int k (QIL (QIL a b) c))) else bad
    | _,_,_=>j)
   | _=>j
  | .builtin _=>j
  | _=>bad
 | .build t parts=>match QVn P t (QNh ρ parts.toList) with
  | some cs=>kp K ρ o.dst ((.agg cs.toArray))
  | none=>bad
 | .field t x f=>match P.underlying t,ev ρ x with
  | some (.struct fs),.agg cs=>(match fs.toList[f]? with
   | some fd=>bif QBy P fd.type then (match QIU P fd.type with
     | some n=>kp K ρ o.dst ((.agg ((cs.toList.drop fd.offset).take n).toArray))
     | none=>bad)
    else (match P.underlying fd.type,cs.toList[fd.offset]? with
     | some _,some v=>kp K ρ o.dst (v)
     | _,_=>bad)
   | none=>bad)
  | _,_=>bad
 | .buildSlice t len parts=>match P.underlying t with
  | some (.slice e)=>(match QIU P e,QFR P e with
   | some n,some z=>bif Nat.ble (len*n) 16777216&&Nat.beq z.length n then (match QOY (fun i=>some (i*n,n)) (QJI z len) (QNh ρ parts.toList) with
     | some cs=>QCz cs e fun b=>kp K ρ o.dst ((.slice (some ⟨b,0,none⟩) len len))
     | none=>bad) else bad
   | _,_=>bad)
  | _=>bad
 | .makeSlice t len cap=>QLu P (Instr.makeSlice t (ev ρ len) (ev ρ cap)) .slice fun s=>kp K ρ o.dst (s.v)
 | .convert s d x=>match P.underlying s,P.underlying d with
  | some (.slice _),some .string=>QLu P (convert s d (ev ρ x)) .str fun s=>kp K ρ o.dst ((.string s))
  | some .string,some (.slice _)=>QLu P (convert s d (ev ρ x)) .slice fun s=>kp K ρ o.dst (s.v)
  | _,_=>j
 | .makeMap t r=>QLu P (Instr.makeMap t (r.map (ev ρ))) .map fun m=>kp K ρ o.dst ((.map m))
 | .lookup t x i ok=>match P.underlying t with
  | some (.map _ e)=>(match QBm P 20 e with
   | [s]=>bif !(QBy P e) then (fSh s fun s=>bif ok then Qgw P t (ev ρ x) (ev ρ i) s fun v b=>kp K ρ o.dst ((.tuple #[s.mk v,.bool b])) else QLu P (Instr.lookup t (ev ρ x) (ev ρ i) false) s fun v=>kp K ρ o.dst ((s.mk v))) else bad
   | _=>bad)
  | _=>bad
 | .range t x=>match P.underlying t with
  | some .string=>QLu P (Instr.range t (ev ρ x)) .ptr fun q=>kp K ρ o.dst ((.pointer q))
  | _=>bad
 | .next it s=>bif s then Qb3 P (ev ρ it) o.type (kp K ρ o.dst ((.tuple #[.bool false]))) (fun i c=>kp K ρ o.dst ((.tuple #[.bool true,.int .i64 i,.int .i32 c]))) else bad
 | .mapUpdate t m k x=>Qjs P t (ev ρ m) (ev ρ k) (ev ρ x) (kp K ρ o.dst (undef))
 | _=>j
structure Fits(N:Nat)(ds:List Deferred)(ρ:Env)(a:Act):Prop where
 size:N<=a.tmps.size
 defs:a.defers=ds
 get:∀t,has ρ t=true->a.tmps[t]? = some (gv ρ t)
theorem QDC{u t:Nat}{v:Value}{ρ:Env}:has ((u,v)::ρ) t=(bif Nat.beq u t then true else has ρ t):=rfl
theorem QCv{u t:Nat}{v:Value}{ρ:Env}:gv ((u,v)::ρ) t=(bif Nat.beq u t then v else gv ρ t):=rfl
theorem Fits.put{i:List Deferred}{N:Nat}{ρ:Env}{a:Act}{d:Option Nat}{v:Value}(h:Fits N i ρ a)(f:∀t,d=some t->t<N):Fits N i (put ρ d v) (a.put d v):=by
 cases d with
 | none=>exact h
 | some d=>
  have j:=h.size;have f:=f d rfl;refine⟨by simpa [Act.put]using j,h.defs,fun t c=>?_⟩;by_cases e:d=t
  ·subst e;simp only[Cf.put,Act.put,QCv,Nat.beq_refl,cond_true];rw[Uj Om]
  ·have g:Nat.beq d t=false:=by
    cases hb:Nat.beq d t
    ·rfl
    ·exact absurd (Wo hb) e
   simp only[Cf.put,QDC,g,cond_false]at c;simp only[Cf.put,Act.put,QCv,g,cond_false];rw[Oj e];exact h.get t c
theorem Fits.eval{c:List Deferred}{N:Nat}{ρ:Env}{a:Act}(h:Fits N c ρ a){x:Operand}(hx:QNX ρ x=true):a.eval x=ev ρ x:=by
 cases x with
 | tmp t=>
  have:=h.get t hx;simp[Act.eval,ev,O4,this]
 | _=>rfl
def QTv(N:Nat)(ρ:Env)(o:Oper):Bool:=
 o.op.operands.toList.all (QNX ρ)&&(match o.dst with|some d=>Nat.blt d N|none=>true)&&(match o.op with|.select .. => false|_=>true)
def QHG(P:Program):Prop:=∀(g:Nat) (fn:Func),P.funcs[g]? = some fn->(fn.name == "runtime.NumGoroutine")=false
section ops
variable [Pan] {P:Program}{w:World}
theorem QVh{t:TypeId}{i:TypeInfo}(h:P.info? t=some i)(w:World):(typeInfo t).run P w=.ok i w:=by
 simp[typeInfo,h]
theorem QJU{t:TypeId}{n:Nat}(h:QIU P t=some n):∃i,P.info? t=some i/\i.size=n:=by
 unfold QIU at h
 cases hi:P.info? t with
 | none=>rw[hi]at h;cases h
 | some i=>rw[hi]at h;exact⟨i,rfl,Si h⟩
theorem QEP{t:TypeId}{n:Nat}(h:QIU P t=some n)(w:World):(sizeOf t).run P w=.ok n w:=by
 obtain⟨i,hi,rfl⟩:=QJU h;simp[sizeOf,QVh hi]
theorem QLE:∀(ss:List Sh) (c:Addr) (i:Nat) (a:Ad) (K:Ad->WP),QGd ss c i a K w ->
  ∃vs,(loadCellsFrom c i ss.length a.reverse.toArray).run P w=.ok vs.toArray w/\K vs w/\vs.length=a.length+ss.length:=by
 intro ss
 induction ss with
 | nil=>intro c i a K h;exact⟨a.reverse,rfl,h,by simp⟩
 | cons s ss ih=>
  intro c i a K h;rw[QGd,QBj]at h;obtain⟨x,hx,h⟩:=h;obtain⟨vs,hv,h,hl⟩:=ih c (i+1) (s.mk x::a) K h;refine⟨vs,?_,h,by rw[hl];simp;omega⟩;simp only[Wl,loadCellsFrom,Sem.run_bind,run_load,hx,Result.andThen_ok]
  have e:(a.reverse.toArray.push (s.mk x))=(s.mk x::a).reverse.toArray:=by simp
  rw[e];exact hv
theorem QTG:∀(vs:Ad) (a:Addr) (i:Nat) (K:WP) (w:World),QQG vs a i K w ->
  ∃w',(storeCells a vs i).run P w=.ok () w'/\K w':=by
 intro vs
 induction vs with
 | nil=>intro a i K w h;exact⟨w,rfl,h⟩
 | cons v vs ih=>
  intro a i K w h;obtain⟨⟨u,c⟩,d,hv,h⟩:=h;obtain⟨w',e,h⟩:=ih a (i+1) K _ h;refine⟨w',?_,h⟩;simp only[storeCells,Sem.run_bind,run_store P w _ v _ hv,c,d,Wi,Oa,Result.andThen_ok];exact e
theorem QCs{o:Oper}{a:Act}{next:Act->World->Prop}{Q:Exit->Act->World->Prop}{s:Sem Value}{v:Value}{w':World}(h:s.run P w=.ok v w')(hn:next (a.put o.dst v) w') :
  o.upon P a next Q ((do pure (Next.value (<- s)):Sem Next).run P w):=by
 simp only[Sem.run_bind,h,Result.andThen_ok,Sem.run_pure,Oper.upon];exact hn
theorem QSc{o:Oper}{a:Act}{next:Act->World->Prop}{Q:Exit->Act->World->Prop}{s:Sem Unit}{w':World}(h:s.run P w=.ok () w')(hn:next (a.put o.dst undef) w') :
  o.upon P a next Q ((do s;pure Next.skip:Sem Next).run P w):=by
 simp only[Sem.run_bind,h,Result.andThen_ok,Sem.run_pure,Oper.upon];exact hn
theorem QAG{c:Bool}{x:WP}(h:(bif c then x else bad) w):c=true/\x w:=by
 cases c
 ·exact h.elim
 ·exact⟨rfl,h⟩
theorem QCE{t:TypeId}{d:TypeDesc}(h:P.underlying t=some d)(w:World):(isAgg t).run P w=.ok (QBy P t) w:=by
 unfold isAgg QBy;simp only[Sem.run_bind,run_underlying h,Result.andThen_ok,h];cases d<;>rfl
theorem QC4{t:TypeId}(h:QBy P t=true):∃d,P.underlying t=some d:=by
 unfold QBy at h
 cases a:P.underlying t with
 | none=>rw[a]at h;cases h
 | some d=>exact⟨d,rfl⟩
theorem QFN{t:TypeId}{n:Nat}{s:Sh}(h:QBm P (n+1) t=[s]):∃d,P.underlying t=some d:=by
 unfold QBm at h
 cases a:P.underlying t with
 | none=>rw[a]at h;cases h
 | some d=>exact⟨d,rfl⟩
theorem QHe{ρ:Env}{x:Option Operand}{d l:Int}(h:bnd ρ x d=some l)(P:Program)(w:World)(y:Nat)(code:BoundsCode)(h0:0<=l)(h1:l<=y) :
  (match x.map (ev ρ) with|some v=>Instr.sliceBound v y code|none=>pure d.toNat:Sem Nat).run P w=.ok l.toNat w:=by
 cases x with
 | none=>
  simp only[bnd,Wg]at h;subst h;rfl
 | some o=>
  simp only[bnd]at h;simp only[U4]
  cases hv:ev ρ o with
  | int k n=>
   rw[hv]at h;simp only[Qid,Wg]at h;subst h;simp[Instr.sliceBound,asIntOf,h0,h1]
  | _=>rw[hv]at h;simp[Qid]at h
theorem QcK{t e:TypeId}(h:P.underlying t=some (.pointer e))(d:Nat)(q:Ac)(w:World):(Op.equalIn (d+1) t (.pointer q) (.pointer none)).run P w=.ok (QCy q) w:=by
 cases q<;>simp[Op.equalIn,run_underlying h,QCy]
theorem QYY{t e:TypeId}(h:P.underlying t=some (.slice e))(d:Nat)(q:Ac)(n c a c':Nat)(w:World):(Op.equalIn (d+1) t (.slice q n c) (.slice none a c')).run P w=.ok (QCy q) w:=by
 cases q<;>simp[Op.equalIn,run_underlying h,QCy]
theorem Qcm{t k e:TypeId}(h:P.underlying t=some (.map k e))(d:Nat)(q:Option Nat)(w:World):(Op.equalIn (d+1) t (.map q) (.map none)).run P w=.ok (QCy q) w:=by
 cases q<;>simp[Op.equalIn,run_underlying h,QCy]
theorem QKB{t:TypeId}{x y:Value}{b:Bool}(h:∀d (w:World),(Op.equalIn (d+1) t x y).run P w=.ok b w)(w:World):(Op.equal t x y).run P w=.ok b w:=h 9999 w
theorem QXQ{t:TypeId}{d:Value}{b:Bool}(h:QUs P t d=some b) :
  (∃q e,d=.pointer q/\P.underlying t=some (.pointer e)/\b=QCy q)\/(∃q n c e,d=.slice q n c/\P.underlying t=some (.slice e)/\b=QCy q) \/
  (∃q k e,d=.map q/\P.underlying t=some (.map k e)/\b=QCy q):=by
 unfold QUs at h;split at h
 ·split at h
  ·rename_i a;simp only[Wg]at h;exact .inl ⟨_,_,rfl,a,h.symm⟩
  ·cases h
 ·split at h
  ·rename_i a;simp only[Wg]at h;exact .inr (.inl ⟨_,_,_,_,rfl,a,h.symm⟩)
  ·cases h
 ·split at h
  ·rename_i a;simp only[Wg]at h;exact .inr (.inr ⟨_,_,_,rfl,a,h.symm⟩)
  ·cases h
 ·cases h
theorem QTz{q:Ac}{y:Operand}(h:QGZ (.pointer q) y=true):y=.const (.pointer none):=by
 unfold QGZ at h;split at h<;>first|rfl|(exact absurd h Zl)|(rename_i a;cases a)
theorem QQX{q:Ac}{n c:Nat}{y:Operand}(h:QGZ (.slice q n c) y=true):∃n c,y=.const (.slice none n c):=by
 unfold QGZ at h;split at h<;>first|exact⟨_,_,rfl⟩|(exact absurd h Zl)|(rename_i a;cases a)
theorem QU7{q:Option Nat}{y:Operand}(h:QGZ (.map q) y=true):y=.const (.map none):=by
 unfold QGZ at h;split at h<;>first|rfl|(exact absurd h Zl)|(rename_i a;cases a)
theorem QSJ{t:TypeId}{x y:Operand}{a:Value}{b:Bool}(hb:QUs P t a=some b){ρ:Env}(g:QGZ a y=true)(w:World) :
  (do eqGuard .eql t x y a (ev ρ y);binOp .eql t a (ev ρ y):Sem Value).run P w=.ok (.bool b) w /\
  (do eqGuard .neq t x y a (ev ρ y);binOp .neq t a (ev ρ y):Sem Value).run P w=.ok (.bool !b) w:=by
 rcases QXQ hb with⟨q,e,rfl,f,rfl⟩|⟨q,n,c,e,rfl,f,rfl⟩|⟨q,k,e,rfl,f,rfl⟩
 ·obtain rfl:=QTz g;have:=QKB (fun d w=>QcK f d q w) w;simp only[eqGuard_at_pointer,ev,binOp,Sem.run_bind,Sem.run_pure,Result.andThen_ok,this];exact⟨trivial,trivial⟩
 ·obtain⟨h,c',rfl⟩:=QQX g;have:=QKB (fun d w=>QYY f d q n c h c' w) w;simp only[eqGuard_at_slice,ev,binOp,Sem.run_bind,Sem.run_pure,Result.andThen_ok,this];exact⟨trivial,trivial⟩
 ·obtain rfl:=QU7 g;have:=QKB (fun d w=>Qcm f d q w) w;simp only[eqGuard_at_map,ev,binOp,Sem.run_bind,Sem.run_pure,Result.andThen_ok,this];exact⟨trivial,trivial⟩
theorem QYt{t:TypeId}{a:Array (String×TypeId)}(c:P.underlying t=some (.interface a)){v:Value}{b:Bool}(hv:Qed false v=some b)(d:Nat)(w:World):(Op.equalIn (d+1) t v .nilIface).run P w=.ok b w:=by
 unfold Op.equalIn;cases v<;>simp only[Qed,reduceCtorEq,Wg]at hv<;>subst hv<;>simp only[Sem.run_bind,run_underlying c,Result.andThen_ok,Sem.run_pure]
theorem QZg{t:TypeId}{a1 a2 a3}(a:P.underlying t=some (.func a1 a2 a3)){v:Value}{b:Bool}(hv:Qed true v=some b)(d:Nat)(w:World):(Op.equalIn (d+1) t v .nilFunc).run P w=.ok b w:=by
 unfold Op.equalIn;cases v<;>simp only[Qed,reduceCtorEq,Wg]at hv<;>subst hv<;>simp only[Sem.run_bind,run_underlying a,Result.andThen_ok,Sem.run_pure]
theorem QV4{t:TypeId}{x y:Operand}{c:Value}{f b:Bool}(a:QgM P t y=some f)(hv:Qed f c=some b)(ρ:Env)(w:World) :
  (do eqGuard .eql t x y c (ev ρ y);binOp .eql t c (ev ρ y):Sem Value).run P w=.ok (.bool b) w /\
  (do eqGuard .neq t x y c (ev ρ y);binOp .neq t c (ev ρ y):Sem Value).run P w=.ok (.bool !b) w:=by
 unfold QgM at a;split at a
 ·split at a
  ·rename_i g e
   obtain rfl:=(W3 a).symm;have:=QKB (fun d w=>QYt e hv d w) w
   cases c<;>simp only[Qed,reduceCtorEq]at hv <;>
    simp only[eqGuard_nil_constR,eqGuard_at_iface,ev,binOp,Sem.run_bind,Sem.run_pure,Result.andThen_ok,this] <;> exact⟨trivial,trivial⟩
  ·cases a
 ·split at a
  ·rename_i h a2 a3 e
   obtain rfl:=(W3 a).symm;have:=QKB (fun d w=>QZg e hv d w) w
   cases c<;>simp only[Qed,reduceCtorEq]at hv <;>
    simp only[eqGuard_at_nilFunc,eqGuard_at_func,ev,binOp,Sem.run_bind,Sem.run_pure,Result.andThen_ok,this] <;> exact⟨trivial,trivial⟩
  ·cases a
 ·cases a
section
variable {t:TypeId}{x y:Value}{b:Bool}
theorem QPL(h:QPO P t x y=some b)(d:Nat)(w:World):(Op.equalIn (d+1) t x y).run P w=.ok b w:=by
 unfold QPO vEq QZF QbC at h;unfold Op.equalIn;split at h
 ·rename_i g k a f i c
  cases e:decide (k=f) with
  | false=>simp[e]at h
  | true=>
   simp only[e,cond_true,Wg]at h;simp only[Sem.run_bind,run_underlying c,Result.andThen_ok,We (Ox e),Sem.run_pure,h]
 ·rename_i c
  simp only[Wg]at h;simp only[Sem.run_bind,run_underlying c,Result.andThen_ok,Sem.run_pure,h]
 ·rename_i c
  simp only[Wg]at h;simp only[Sem.run_bind,run_underlying c,Result.andThen_ok,Sem.run_pure,h]
 ·cases h
theorem QW9{cs:Array Value}{off:Nat}{v:Value}{d:TypeDesc}(a:P.underlying t=some d)(c:QBy P t=false)(hv:cs[off]? = some v)(w:World):(part t cs off).run P w=.ok v w:=by
 simp only[part,Sem.run_bind,QCE a,c,Result.andThen_ok,Wi,Oa,hv,Sem.run_pure]
theorem QK9(h:QPO P t x y=some b):∃d,P.underlying t=some d:=by
 cases a:P.underlying t with
 | none=>unfold QPO at h;rw[a]at h;cases h
 | some d=>exact⟨d,rfl⟩
theorem QNn:∀{d:Nat}{t:TypeId}{x y:Value}{b:Bool},QOT P d t x y=some b->∃u,P.underlying t=some u:=by
 intro d t x y b h
 cases d with
 | zero=>exact QK9 h
 | succ d=>
  unfold QOT at h;split at h
  ·rename_i a;exact⟨_,a⟩
  ·exact QK9 h
theorem QKz{u:TypeDesc}(d:P.underlying t=some u){cs:Array Value}{off:Nat}{v:Value}(h:QN1 P t cs.toList off=some v)(w:World):(part t cs off).run P w=.ok v w:=by
 unfold QN1 at h
 cases a:QBy P t with
 | false=>
  rw[a]at h;exact QW9 d a (Si h) w
 | true=>
  rw[a]at h;simp only[cond_true]at h
  cases c:QIU P t with
  | none=>rw[c]at h;cases h
  | some n=>
   rw[c]at h;simp only[Wg]at h;subst h;simp only[part,Sem.run_bind,QCE d,a,Result.andThen_ok,O7,QEP c,Sem.run_pure];congr 2;apply Zt;simp[Array.toList_extract,List.extract]
theorem QLK(w:World)(xs ys:Array Value)(n:Nat){eqv:TypeId->Value->Value->Option Bool}(g:∀t x y b,eqv t x y=some b->∀w,(Op.equalIn (n+1) t x y).run P w=.ok b w)
  (i:∀t x y b,eqv t x y=some b->∃u,P.underlying t=some u):∀(fs:List Field) (b:Bool),QEX P eqv fs xs.toList ys.toList=some b ->
  (forIn (m:=Sem) fs ((none,()):Option Bool×Unit) fun f _=>
   if f.name ≠ "_" then do
    if !(<- Op.equalIn (n+1) f.type (<- part f.type xs f.offset) (<- part f.type ys f.offset)) then pure (ForInStep.done (some false,()))
    else pure (ForInStep.yield (none,()))
   else pure (ForInStep.yield (none,()))).run P w=.ok (if b then (none,()) else (some false,())) w:=by
 intro fs
 induction fs with
 | nil=>
  intro b h;simp only[QEX,Wg]at h;subst h;simp only[List.forIn_nil,Sem.run_pure,O7]
 | cons f fs ih=>
  intro b h;unfold QEX QVz at h
  cases hc:(!(f.name == "_")) with
  | false=>rw[hc]at h;cases h
  | true=>
   rw[hc]at h;simp only[cond_true]at h;simp only[W2,U1]at hc
   cases hx:QN1 P f.type xs.toList f.offset with
   | none=>rw[hx]at h;cases h
   | some x=>
    cases a:QN1 P f.type ys.toList f.offset with
    | none=>rw[hx,a]at h;cases h
    | some y=>
     rw[hx,a]at h;simp only at h
     cases he:eqv f.type x y with
     | none=>rw[he]at h;cases h
     | some b1=>
      cases c:QEX P eqv fs xs.toList ys.toList with
      | none=>rw[he,c]at h;cases h
      | some r=>
       rw[he,c]at h;simp only[Wg]at h;subst h;obtain⟨d,e⟩:=i _ _ _ _ he;simp only[List.forIn_cons,We hc,Sem.run_bind,QKz e hx,QKz e a,g _ _ _ _ he,Result.andThen_ok]
       cases b1 with
       | true=>
        simp only[K5,Wi,Oa,Sem.run_pure,Result.andThen_ok,Bool.true_and];exact ih r c
       | false=>simp only[Bool.not_false,O7,Sem.run_pure,Result.andThen_ok,Bool.false_and,Wi,Oa]
theorem QZj:∀(d m:Nat) (t:TypeId) (x y:Value) (b:Bool),QOT P d t x y=some b->∀w,(Op.equalIn (m+d+1) t x y).run P w=.ok b w:=by
 intro d
 induction d with
 | zero=>intro m t x y b h w;exact QPL h _ w
 | succ d ih=>
  intro m t x y b h w;unfold QOT at h;split at h
  ·rename_i fs xs ys a
   obtain⟨hb,h⟩:P.stoodInHeld t=false/\QEX P (QOT P d) fs.toList xs.toList ys.toList=some b:=by
    cases hb:P.stoodInHeld t with
    | false=>rw[hb]at h;exact⟨rfl,h⟩
    | true=>rw[hb]at h;cases h
   show (Op.equalIn ((m+(d+1))+1) t (.agg xs) (.agg ys)).run P w=_;unfold Op.equalIn;simp only[Sem.run_bind,run_underlying a,Result.andThen_ok,run_program,hb,Wi,Oa];rw[<-Array.forIn_toList];have:=QLK (P:=P) w xs ys (m+d) (eqv:=QOT P d) (fun t x y b h w=>ih m t x y b h w) (fun t x y b h=>QNn h) fs.toList b h;rw[show m+(d+1)=m+d+1 by omega];rw[this];cases b<;>simp
  ·exact QPL h _ w
theorem Qbc(h:QRf P t x y=some b)(w:World):(Op.equal t x y).run P w=.ok b w:=by
 unfold QRf at h;split at h
 ·rename_i fs xs ys a
  obtain⟨hb,h⟩:(!(P.eqGuardType P.depth t) && !(P.stoodInHeld t))=true/\QEX P (QOT P 1) fs.toList xs.toList ys.toList=some b:=by
   cases hb:(!(P.eqGuardType P.depth t) && !(P.stoodInHeld t)) with
   | true=>rw[hb]at h;exact⟨rfl,h⟩
   | false=>rw[hb]at h;cases h
  simp only[Wf,W2]at hb;show (Op.equalIn (9999+1) t (.agg xs) (.agg ys)).run P w=_;unfold Op.equalIn;simp only[Sem.run_bind,run_underlying a,Result.andThen_ok,run_program,hb.2,Wi,Oa];rw[<-Array.forIn_toList];have:=QLK (P:=P) w xs ys 9998 (eqv:=QOT P 1) (fun t x y b h w=>QZj 1 9997 t x y b h w) (fun t x y b h=>QNn h) fs.toList b h;simp only[Nat.reduceAdd]at this;rw[this];cases b<;>simp
 ·cases h
theorem QTH{c d:Operand}(h:QRf P t x y=some b)(w:World) :
  (do eqGuard .eql t c d x y;binOp .eql t x y:Sem Value).run P w=.ok (.bool b) w /\
  (do eqGuard .neq t c d x y;binOp .neq t x y:Sem Value).run P w=.ok (.bool !b) w:=by
 have a:=Qbc h w;unfold QRf at h;split at h
 ·rename_i fs xs ys e
  have hb:P.eqGuardType P.depth t=false:=by
   cases hb:(!(P.eqGuardType P.depth t) && !(P.stoodInHeld t)) with
   | true=>simp only[Wf,W2]at hb;exact hb.1
   | false=>rw[hb]at h;cases h
  constructor
  ·simp only[eqGuard,Sem.run_bind,Sem.run_ite,run_program,Result.andThen_ok,hb,binOp,Sem.run_pure];simp[a]
  ·simp only[eqGuard,Sem.run_bind,Sem.run_ite,run_program,Result.andThen_ok,hb,binOp,Sem.run_pure];simp[a]
 ·cases h
end
theorem Qff{op:BinOp}(h:Qfv op=true)(c:TypeId)(k:IntKind)(a b:Int):QA5 P (binOp op c (.int k a) (.int k b))=some (vOp op k a b):=by
 cases op<;>first|(cases h;done)|(simp only[binOp,ne_eq,Uq,Oa];rfl)
theorem QMd{s:Sem Value}:∀{v},QA5 P s=some v->QA5 P (do pure (Next.value (<- s)):Sem Next)=some (.value v):=by
 induction s with
 | pure a=>intro v h;simp only[QA5,Wg]at h;subst h;rfl
 | program k ih=>intro v h;exact ih _ h
 | mark m k ih=>intro v h;exact ih h
 | _=>intro v h;simp[QA5]at h
theorem QIi{α c:Type}(s:Sem α)(f:α->Sem c):∀{a},QA5 P s=some a->QA5 P (s >>= f)=QA5 P (f a):=by
 induction s with
 | pure a=>intro v h;simp only[QA5,Wg]at h;subst h;rfl
 | program k ih=>intro v h;exact ih _ h
 | mark m k ih=>intro v h;exact ih h
 | _=>intro v h;simp[QA5]at h
theorem QJL{t:TypeId}{d:TypeDesc}(h:P.underlying t=some d):QA5 P (underlying t)=some d:=by
 unfold underlying;show QA5 P (match P.underlying t with|some d=>pure d|none=>_)=_;rw[h];rfl
theorem Qej{c:TypeId}{a b:Bool}(d:P.underlying c=some .bool):QA5 P (Op.equal c (.bool a) (.bool b))=some (a == b):=by
 unfold Op.equal;rw[show Op.maxDepth=9999+1 from rfl,Op.equalIn,QIi _ _ (QJL d)];rfl
theorem QUU(op:BinOp)(t:TypeId)(x y:Operand)(k c:IntKind)(a b:Int):eqGuard op t x y (.int k a) (.int c b)=pure ():=by
 cases op<;>rfl
theorem QT4(op:BinOp)(t:TypeId)(x y:Operand)(a b:ByteArray):eqGuard op t x y (.string a) (.string b)=pure ():=by
 cases op<;>rfl
theorem QiB{ρ:Env}{a:Array Operand}{ts:Array TypeId}{v:Value}{dst:Option Tmp}{c:TypeId}{pos:String}{g:Array Edge}{guard:Option (Nat×Bool)}
  (h:(match ts.toList,a.toList with
  | [t],[x]=>(match P.underlying t,ev ρ x with
   | some (.slice _),.slice _ n _=>some (.int .i64 (QFq n))
   | some .string,.string s=>some (.int .i64 (QFq s.size))
   | _,_=>none)
  | _,_=>none)=some v):QA5 P (execOp (ev ρ) ⟨dst,.call ⟨.builtin .len,a,ts⟩,c,pos,g,guard⟩)=some (.value v):=by
 obtain⟨a⟩:=a;obtain⟨ts⟩:=ts;split at h
 ·rename_i t x f hx
  simp only at f hx;subst f hx
  have e:∀v,QA5 P (Builtin.len_ #[t] c #[ev ρ x])=some v->QA5 P (execOp (ev ρ) ⟨dst,.call ⟨.builtin .len,#[x],#[t]⟩,c,pos,g,guard⟩)=some (.value v):=by
   intro v hv;simp only[execOp,resolve,invoke,builtin];refine QMd ?_;show QA5 P (Builtin.len_ #[t] c (Array.map (ev ρ) #[x]))=_;rw[show Array.map (ev ρ) #[x] = #[ev ρ x] by simp];exact hv
  split at h
  ·rename_i d hv
   simp only[Wg]at h;subst h;refine e _ ?_;rw[hv];show QA5 P (underlying t >>= _)=_;rw[QIi _ _ (QJL d)];rfl
  ·rename_i d hv
   simp only[Wg]at h;subst h;refine e _ ?_;rw[hv];show QA5 P (underlying t >>= _)=_;rw[QIi _ _ (QJL d)];rfl
  ·cases h
 ·cases h
theorem Qg8{ρ:Env}{o:Oper}{v:Value}(h:pv P ρ o=some v):QA5 P (execOp (ev ρ) o)=some (.value v):=by
 obtain⟨dst,op,m,pos,p,guard⟩:=o;unfold pv at h;simp only at h;split at h
 ·rw[Qgi]at h;simp only[Wg]at h;subst h;rfl
 ·simp only[Wg]at h;subst h
  have e:∀a:Array Operand,(a.toList.map (ev ρ)).toArray=a.map (ev ρ):=fun a=>by apply Zt;simp
  rw[e,e];rfl
 ·exact QiB h
 ·rename_i op g x y _
  simp only[execOp];refine QMd ?_;split at h
  ·rename_i k a i b hx c
   cases hb:(Qfv op&&decide (k=i)) with
   | false=>rw[hb]at h;cases h
   | true=>
    rw[hb]at h;simp only[Wf,Wq]at hb;obtain⟨h1,rfl⟩:=hb;simp only[cond_true,Wg]at h;subst h;rw[hx,c,QUU];exact Qff h1 ..
  ·rename_i a b hx c
   rw[hx,c,QT4];cases op<;>simp only[reduceCtorEq]at h <;> (simp only[Wg]at h;subst h;rfl)
  ·rename_i a b hx c
   rw[hx,c];split at h
   ·rename_i f
    simp only[Wg]at h;subst h;show QA5 P (Op.equal g (.bool a) (.bool b) >>= fun r=>pure (Value.bool r))=some _;rw[QIi _ _ (Qej f)];rfl
   ·rename_i f
    simp only[Wg]at h;subst h;show QA5 P (Op.equal g (.bool a) (.bool b) >>= fun r=>pure (Value.bool !r))=some _;rw[QIi _ _ (Qej f)];rfl
   ·cases h
  ·cases h
 ·split at h
  ·rename_i x b hx
   simp only[Wg]at h;subst h;simp only[execOp,hx];rfl
  ·cases h
 ·split at h
  ·rename_i x k a hx
   simp only[Wg]at h;subst h;simp only[execOp,hx];rfl
  ·cases h
 ·split at h
  ·rename_i x k a hx
   simp only[Wg]at h;subst h;simp only[execOp,hx];rfl
  ·cases h
 ·rename_i sT d x
  split at h
  ·rename_i u k i n j l hx
   simp only[Wg]at h;subst h;simp only[execOp];refine QMd ?_;unfold convert;rw[QIi _ _ (QJL j),QIi _ _ (QJL l),hx];cases u<;>rfl
  ·cases h
 ·cases h
theorem QXG{ρ:Env}{o:Oper}:QYy P ρ o=QA5 P (execOp (ev ρ) o):=by
 unfold QYy;split
 ·rename_i v h;exact (Qg8 h).symm
 ·rfl
theorem QPz{x:Bool}{a b:Operand}{ρ e:Env}:QYe x a b (ev ρ a) (ev e b)=Qa2 x (ev ρ a) (ev e b):=by
 have k:∀c d,c=ev ρ a->d=ev e b->QYe x a b c d=Qa2 x c d:=by
  intro c d f hb;unfold QYe;split
  ·cases f;cases x<;>rfl
  ·cases hb;rename_i u _;cases x<;>cases u<;>rfl
  ·rfl
  ·unfold Qa2;split
   ·rename_i g _ _;exact (g _ _ rfl rfl).elim
   ·rfl
 exact k _ _ rfl rfl
theorem QQz(x:Bool)(a b:Value):Qa2 x a b=if x then a else b:=by
 unfold Qa2;split<;>cases x<;>rfl
theorem Qdc(off:Nat):∀(vs:Ad) (s:Nat) (cs:Array Value),(vs.zipIdx s).foldl (fun(cs:Array Value) x=>cs.setIfInBounds (off+x.2) x.1) cs=(QE6 vs (off+s) cs.toList).toArray:=by
 intro vs
 induction vs with
 | nil=>intro s cs;rfl
 | cons v vs ih=>
  intro s cs;simp only[List.zipIdx_cons,Zr,QE6];rw[ih,Array.toList_setIfInBounds];rfl
theorem QGL{place:Nat->Option (Nat×Nat)}:∀(parts:List (Nat×Value)) (cs:Array Value) {r:Ad},QOY place cs.toList parts=some r->Instr.fill place cs parts=some r.toArray:=by
 intro parts
 induction parts with
 | nil=>intro cs r h;simp only[QOY,Wg]at h;subst h;rfl
 | cons p ps ih=>
  intro cs r h;obtain⟨i,v⟩:=p;simp only[QOY]at h;simp only[Instr.fill]
  cases a:place i with
  | none=>rw[a]at h;cases h
  | some os=>
   obtain⟨off,size⟩:=os;rw[a]at h;simp only at h|-
   cases hb:(Nat.beq v.cells.toList.length size&&Nat.ble (off+v.cells.toList.length) cs.toList.length) with
   | false=>rw[hb]at h;cases h
   | true=>
    rw[hb]at h;simp only[cond_true]at h;simp only[Wf]at hb;have h1:=Wo hb.1;have d:=Kb hb.2;simp only[Zy]at h1 d;rw[Wb (by simp[h1];omega)]
    have e:v.cells.zipIdx.foldl (fun cs x=>cs.setIfInBounds (off+x.2) x.1) cs=(QE6 v.cells.toList off cs.toList).toArray:=by
     rw[<-Array.foldl_toList,Array.toList_zipIdx];exact Qdc off _ 0 cs
    have f:(v.cells.zipIdx.foldl (fun cs (x:Value×Nat)=>match x with|(c,j)=>cs.setIfInBounds (off+j) c) cs)=(QE6 v.cells.toList off cs.toList).toArray:=e;rw[f];exact ih _ (Si h)
theorem QXW:∀(fs:List Field) {ps:List (Nat×Nat)},QIp P fs=some ps->fs.mapM (fun f=>(P.info? f.type).map fun i=>(f.offset,i.size))=some ps:=by
 intro fs
 induction fs with
 | nil=>intro ps h;simp only[QIp,Wg]at h;subst h;rfl
 | cons f fs ih=>
  intro ps h;simp only[QIp]at h
  cases a:QIU P f.type with
  | none=>rw[a]at h;cases h
  | some n=>
   cases c:QIp P fs with
   | none=>rw[a,c]at h;cases h
   | some l=>
    rw[a,c]at h;simp only[Wg]at h;subst h;obtain⟨i,hi,rfl⟩:=QJU a;rw[List.mapM_cons,ih c];simp[hi]
theorem QCQ{t:TypeId}{z:Ad}(h:QFR P t=some z):∃i v,P.info? t=some i/\i.zero=some v/\z=v.cells.toList:=by
 unfold QFR at h
 cases hi:P.info? t with
 | none=>rw[hi]at h;cases h
 | some i=>
  rw[hi]at h;simp only at h
  cases a:i.zero with
  | none=>rw[a]at h;cases h
  | some v=>rw[a]at h;exact⟨i,v,rfl,a,Si h.symm⟩
theorem QXz{t:TypeId}{parts:Array (Nat×Value)}{cs:Ad}(h:QVn P t parts.toList=some cs)(w:World):(Instr.build t parts).run P w=.ok (.agg cs.toArray) w:=by
 refine run_build w t parts _ ?_;unfold QVn at h
 cases a:P.underlying t with
 | none=>rw[a]at h;cases h
 | some d=>
  cases c:QFR P t with
  | none=>rw[a,c]at h;cases d<;>cases h
  | some z=>
   obtain⟨j,v,hi,hv,rfl⟩:=QCQ c;rw[a,c]at h;unfold Program.built;rw[hi,a];cases d<;>simp only[reduceCtorEq]at h
   ·rename_i n e
    (try simp only)
    cases f:QIU P e with
    | none=>rw[f]at h;cases h
    | some m=>
     rw[f]at h;obtain⟨k,i,rfl⟩:=QJU f;rw[hv,i];exact QGL _ _ h
   ·rename_i fs
    (try simp only)
    cases g:QIp P fs.toList with
    | none=>rw[g]at h;cases h
    | some ps=>
     rw[g]at h;rw[hv,QXW _ g]
     (try simp only)
     refine QGL _ _ ?_;simpa using h
theorem QNR(z:Ad):∀n,(QJI z n).length=n*z.length:=by
 intro n
 induction n with
 | zero=>simp[QJI]
 | succ n ih=>simp only[QJI,Wd,ih,Ka];omega
theorem QdE(z:Ad):∀n k,k<n*z.length->(QJI z n)[k]? = z[k % z.length]?:=by
 intro n
 induction n with
 | zero=>intro k h;simp at h
 | succ n ih=>
  intro k h;rw[Ka]at h;simp only[QJI];by_cases a:k<z.length
  ·rw[Wj a,Nat.mod_eq_of_lt a]
  ·rw[Wr Om,ih _ Om];rw[<-Nat.mod_eq_sub_mod Om]
theorem QEg(z:Array Value)(n:Nat):(Array.range (n*z.size)).map (z[· % z.size]!)=(QJI z.toList n).toArray:=by
 apply Zt;apply Uf;intro k;simp only[Array.toList_map,Array.toList_range,Ol];by_cases a:k<n*z.size
 ·have c:0<z.size:=by
   rcases Z6 z.size with h|h
   ·rw[h]at a;simp at a
   ·exact h
  rw[QdE _ _ _ (Si a)];have d:=Nat.mod_lt k c;simp[a,d]
 ·rw[Ui (Si a),Ui (by rw[QNR];simpa using a)];rfl
theorem QMq{t e:TypeId}{n len:Nat}{z cs:Ad}{parts:Array (Nat×Value)}(l:P.underlying t=some (.slice e))(g:QIU P e=some n)(m:QFR P e=some z)(hb:len*n<=16777216)(hn:z.length=n)
  (h:QOY (fun i=>some (i*n,n)) (QJI z len) parts.toList=some cs) (w:World) :
  (Instr.buildSlice t len parts).run P w=.ok (.slice (some ⟨w.heap.size,0,none⟩) len len) (w.alloc (.cells cs.toArray e)):=by
 obtain⟨j,v,hi,hv,rfl⟩:=QCQ m;obtain⟨a,d,rfl⟩:=QJU g
 obtain rfl:a=j:=by rw[hi]at d;exact (W3 d).symm
 have k:¬(len*a.size>2 ^ 24):=Om
 have c:(Array.range (len*a.size)).map ((if len*a.size=0 then (#[]:Array Value) else v.cells)[· % (if len*a.size=0 then (#[]:Array Value) else v.cells).size]!)=(QJI v.cells.toList len).toArray:=by
  by_cases h0:len*a.size=0
  ·rw[We h0,h0];have:QJI v.cells.toList len=[]:=Wm (by rw[QNR,hn,h0]);rw[this];simp
  ·rw[Wb h0]
   have hsz:a.size=v.cells.size:=by rw[<-hn];simp
   rw[hsz];exact QEg _ _
 have f:=QGL (place:=fun i=>some (i*a.size,a.size)) parts.toList (QJI v.cells.toList len).toArray (Si h);unfold Instr.buildSlice;simp only[Sem.run_bind,run_underlying l,Result.andThen_ok,QEP g,Sem.run_ite,Wb k];by_cases h0:len*a.size=0
 ·simp only[h0,O7]at c|-;simp only[Sem.run_pure,Result.andThen_ok,c,f,newRow,Sem.run_bind,run_newObj,World.alloc_eq]
 ·simp only[h0,Oa]at c|-;simp only[zeroValue,Sem.run_bind,QVh hi,Result.andThen_ok,hv,Sem.run_pure,c,f,newRow,run_newObj,World.alloc_eq]
theorem QR7(ρ:Env)(parts:Array (Nat×Operand)):(parts.map fun(i,x)=>(i,ev ρ x)).toList=QNh ρ parts.toList:=by
 simp only[Array.toList_map,QNh]
def QFB(o:Oper):Bool:=
 match o.op with
 | .load .. => true
 | _=>false
def QJ4(o:Oper):Bool:=
 match o.op with
 | .alloc _=>true
 | .box .. => true
 | .buildSlice .. => true
 | _=>false
def QEA(P:Program)(o:Oper):Bool:=
 match o.op with
 | .store ..|.alloc _|.box ..|.buildSlice ..|.makeSlice ..|.lookup ..|.mapUpdate ..|.makeMap ..|.range ..|.next .. => false
 | .call c=>(match c.callee with|.builtin .append=>false|.builtin .copy=>false|.builtin .clear=>false|.builtin _=>true|_=>false)
 | .convert s d _=>(match P.underlying s,P.underlying d with
  | some (.slice _),some .string=>false
  | some .string,some (.slice _)=>false
  | _,_=>true)
 | _=>true
theorem QBd{s:Sem Value}{v:Value}{w w':World}(h:s.run P w=.ok v w'):(do pure (Next.value (<- s)):Sem Next).run P w=.ok (.value v) w':=by
 simp only[Sem.run_bind,h,Result.andThen_ok,Sem.run_pure]
set_option maxHeartbeats 1000000 in
theorem QM6{ρ:Env}{o:Oper}{K:Env->WP}(H:QEA P o=true)(h:QBS P o ρ K w) :
  ∃v,K (put ρ o.dst v) w/\(execOp (ev ρ) o).run P w=.ok (.value v) w/\(QFB o=true\/∀w',(execOp (ev ρ) o).run P w'=.ok (.value v) w'):=by
 obtain⟨dst,op,M,pos,N,guard⟩:=o
 have j:∀v,K (put ρ dst v) w->(∀w',(execOp (ev ρ) ⟨dst,op,M,pos,N,guard⟩).run P w'=.ok (.value v) w') ->
   ∃v,K (put ρ dst v) w/\(execOp (ev ρ) ⟨dst,op,M,pos,N,guard⟩).run P w=.ok (.value v) w/\(QFB ⟨dst,op,M,pos,N,guard⟩=true\/∀w',(execOp (ev ρ) ⟨dst,op,M,pos,N,guard⟩).run P w'=.ok (.value v) w'):=
  fun v G a9=>⟨v,G,a9 w,.inr a9⟩
 have B:(match QYy P ρ ⟨dst,op,M,pos,N,guard⟩ with|some (.value v)=>K (put ρ dst v)|_=>bad) w ->
   ∃v,K (put ρ dst v) w/\(execOp (ev ρ) ⟨dst,op,M,pos,N,guard⟩).run P w=.ok (.value v) w/\(QFB ⟨dst,op,M,pos,N,guard⟩=true\/∀w',(execOp (ev ρ) ⟨dst,op,M,pos,N,guard⟩).run P w'=.ok (.value v) w'):=by
  intro h;rw[QXG]at h
  cases Q:QA5 P (execOp (ev ρ) ⟨dst,op,M,pos,N,guard⟩) with
  | none=>rw[Q]at h;exact h.elim
  | some n=>
   rw[Q]at h;cases n<;>try exact h.elim
   exact j _ h (QJF _ _ Q)
 cases op with
 | load t x=>
  simp only[QBS,QFq,QCx,QCu,QIl,QIj,QI9,QIK,QIL,QGu,QBj,QBn,QBz,QDo,QCJ]at h;simp only[execOp];cases hx:ev ρ x<;>rw[hx]at h<;>try exact h.elim
  rename_i q
  cases q with
  | none=>exact h.elim
  | some V=>
  simp only at h
  cases J:QBy P t with
  | true=>
   rw[J]at h;simp only[cond_true]at h;obtain⟨d,I⟩:=QC4 J
   cases hsz:QIU P t with
   | none=>rw[hsz]at h;exact h.elim
   | some n=>
    rw[hsz]at h;obtain⟨hb,h⟩:=QAG h;have hb:=Wo hb;obtain⟨vs,hv,h,_⟩:=QLE (P:=P) _ _ _ _ _ h;refine⟨_,h,QBd ?_,.inl rfl⟩;simp only[Instr.loadAt,Instr.sureAddr,Sem.run_bind,Sem.run_pure,Result.andThen_ok,loadVar,QCE I,J,O7,QEP hsz,loadCells];rw[hb];simp only[List.reverse_nil]at hv;rw[hv];rfl
  | false=>
   rw[J]at h;simp only[cond_false]at h
   cases X:QBm P 20 t with
   | nil=>rw[X]at h;exact h.elim
   | cons s r=>
    cases r with
    | cons _ _=>rw[X]at h;exact h.elim
    | nil=>
     rw[X]at h;obtain⟨d,I⟩:=QFN X;obtain⟨y,C,h⟩:=h;refine⟨_,h,QBd ?_,.inl rfl⟩;simp only[Instr.loadAt,Instr.sureAddr,Sem.run_bind,Sem.run_pure,Result.andThen_ok,loadVar,QCE I,J,Wi,Oa,run_load,C]
 | nilCheck x=>
  simp only[QBS,QFq,QCx,QCu,QIl,QIj,QI9,QIK,QIL,QGu,QBj,QBn,QBz,QDo,QCJ]at h
  cases hx:ev ρ x with
  | pointer q=>
   rw[hx]at h;obtain⟨V,rfl,h⟩:=h
   exact j _ h fun w=>by simp only[execOp,hx,Sem.run_pure]
  | _=>rw[hx]at h;exact B h
 | indexAddr t x i=>
  obtain⟨F,g,A⟩:∃F,QBS P _ ρ K=F/\F w:=⟨_,rfl,h⟩;clear h;have h:=A;clear A;simp only[QBS,QFq,QCx,QCu,QIl,QIj,QI9,QIK,QIL,QGu,QBj,QBn,QBz,QDo,QCJ]at g;simp only[execOp];split at g
  ·rename_i e q n _ k m p hx hi
   subst g
   cases hsz:QIU P e with
   | none=>rw[hsz]at h;exact h.elim
   | some sz=>
    rw[hsz]at h;obtain⟨V,rfl,h0,h1,h⟩:=h;refine j _ h fun w=>QBd ?_;simp[Instr.indexAt,asIntOf,hx,hi,run_underlying p,h0,h1,QEP hsz]
  ·rename_i n e V k m p hx hi
   subst g
   cases hsz:QIU P e with
   | none=>rw[hsz]at h;exact h.elim
   | some sz=>
    rw[hsz]at h;obtain⟨b1,L,h0,h1,h⟩:=h
    obtain rfl:V=b1:=Si L
    refine j _ h fun w=>QBd ?_;simp[Instr.indexAt,Instr.sureAddr,asIntOf,hx,hi,run_underlying p,h0,h1,QEP hsz]
  ·subst g;exact h.elim
 | index t x i=>
  obtain⟨F,g,A⟩:∃F,QBS P _ ρ K=F/\F w:=⟨_,rfl,h⟩;clear h;have h:=A;clear A;simp only[QBS,QFq,QCx,QCu,QIl,QIj,QI9,QIK,QIL,QGu,QBj,QBn,QBz,QDo,QCJ]at g;simp only[execOp];split at g
  ·rename_i s k m p hx hi
   subst g;obtain⟨b,h0,hb,h⟩:=h;refine j _ h fun w=>QBd ?_;simp[Instr.index,asIntOf,hx,hi,run_underlying p,h0,hb]
  ·rename_i n e cs k m p hx hi
   split at g
   ·rename_i s hsz b0
    subst g;obtain⟨hb,h⟩:=QAG h;obtain⟨h0,h1,v,hv,h⟩:=h;obtain⟨d,I⟩:=QFN b0;refine j _ h fun w=>QBd ?_;have Q:=QW9 (cs:=cs) (off:=m.toNat*1) I (Si hb) (Si hv) w;simp only[Instr.index,asIntOf,hx,hi,Sem.run_bind,Sem.run_pure,Result.andThen_ok,run_underlying p,Sem.run_ite,h0,h1,and_self,O7,QEP hsz,Q]
   ·rename_i sz hsz _
    subst g;obtain⟨hb,h⟩:=QAG h;simp only[Wf]at hb;obtain⟨h0,h1,v,hv,h⟩:=h;rw[Cur.app_of,hv]at h;obtain⟨d,I⟩:=QC4 hb.1;refine j _ h fun w=>QBd ?_;have Q:=QKz (P:=P) (t:=e) (cs:=cs) (off:=m.toNat*sz) (v:=.agg ((cs.toList.drop (m.toNat*sz)).take sz).toArray) I (by unfold QN1;rw[hb.1,hsz];rfl) w;simp only[Instr.index,asIntOf,hx,hi,Sem.run_bind,Sem.run_pure,Result.andThen_ok,run_underlying p,Sem.run_ite,h0,h1,and_self,O7,QEP hsz,Q]
   ·subst g;exact h.elim
  ·subst g;exact h.elim
 | slice t x lo hi mx=>
  obtain⟨F,g,A⟩:∃F,QBS P _ ρ K=F/\F w:=⟨_,rfl,h⟩;clear h;have h:=A;clear A;simp only[QBS,QFq,QCx,QCu,QIl,QIj,QI9,QIK,QIL,QGu,QBj,QBn,QBz,QDo,QCJ]at g;simp only[execOp];split at g
  ·rename_i e q n c p hx
   split at g
   ·rename_i l u m sz hl Y Z hsz
    subst g;obtain⟨hc,h⟩:=QAG h;obtain⟨h0,h1,R,T,h⟩:=h;refine j _ h fun w=>QBd ?_;have b2:m<=(c:Int):=T;have U:=fun code=>QHe Z P w c code Om b2;have D:=fun code=>QHe Y P w m.toNat code Om Om;have E:=fun code=>QHe hl P w u.toNat code h0 Om;simp only[Wh,Z1]at U D E
    have b3:mx=none->m=c:=fun e=>by subst e;simp[bnd]at Z;exact Z.symm
    simp only[Instr.sliceAt,Instr.slice,Instr.sliceBounds,Sem.run_bind,run_underlying p,Result.andThen_ok,hx]
    cases mx with
    | none=>
     obtain rfl:=b3 rfl;simp only[Option.map_none,Sem.run_pure,Z5,Wi,Oa,O7];have D:=D .sliceAcap;have E:=E .sliceB
     cases hi<;>cases lo<;>simp only[Option.map_none,U4,Sem.run_pure,Wh]at D E|- <;> (try simp only[D,E,Result.andThen_ok,QEP hsz,Sem.run_bind,Sem.run_pure,Sl.cut]) <;>
      (try (cases D)) <;> (try (cases E))<;>simp_all
    | some mo=>
     cases hi with
     | none=>simp at hc
     | some ho=>
      have U:=U .slice3Acap;have D:=D .slice3B;have E:=E .slice3C;cases lo<;>simp only[Option.map_none,U4,Sem.run_pure,Option.isSome_some,O7]at U D E|- <;> simp only[U,D,E,Result.andThen_ok,QEP hsz,Sem.run_bind,Sem.run_pure,Sl.cut] <;> simp_all
   ·subst g;exact h.elim
  ·rename_i s p hx
   split at g
   ·rename_i l u hl Y
    subst g;obtain⟨h0,h1,R,h⟩:=h;refine j _ h fun w=>QBd ?_;have D:=fun code=>QHe Y P w s.size code Om R;have E:=fun code=>QHe hl P w u.toNat code h0 Om;simp only[Wh,Z1]at D E;simp only[Instr.sliceAt,Instr.slice,Instr.sliceBounds,Sem.run_bind,run_underlying p,Result.andThen_ok,hx];have D:=D .sliceAlen;have E:=E .sliceB;cases hi<;>cases lo<;>simp only[Option.map_none,U4,Sem.run_pure,Z5,Wi,Oa]at D E|- <;> (try simp only[D,E,Result.andThen_ok,Sem.run_pure])<;>simp_all
   ·subst g;exact h.elim
  ·rename_i n e a p hx
   split at g
   ·rename_i sz hsz
    subst g;refine j _ h fun w=>QBd ?_;simp[Instr.sliceAt,Instr.sliceBounds,Sem.run_bind,run_underlying p,Result.andThen_ok,hx,Instr.sureAddr,QEP hsz];intro _;simp[Addr.add]
   ·subst g;exact h.elim
  ·subst g;exact h.elim
 | binOp op xt x y yt=>
  obtain⟨F,g,A⟩:∃F,QBS P _ ρ K=F/\F w:=⟨_,rfl,h⟩;clear h;have h:=A;clear A;simp only[QBS,QFq,QCx,QCu,QIl,QIj,QI9,QIK,QIL,QGu,QBj,QBn,QBz,QDo,QCJ]at g;split at g<;>subst g
  ·rename_i k m a0 m' hx C
   obtain⟨a4,h0,R⟩:=QAG h;have a6:=Ox a4;subst a6;refine j _ R fun w=>?_;simp only[execOp,hx,C];refine QBd ?_;simp only[eqGuard_quo,binOp_quo,Op.intDiv,Sem.run_bind,Sem.run_pure,Result.andThen_ok,Sem.run_ite];rw[Wb h0]
  ·rename_i k m a0 m' hx C
   obtain⟨a4,h0,R⟩:=QAG h;have a6:=Ox a4;subst a6;refine j _ R fun w=>?_;simp only[execOp,hx,C];refine QBd ?_;simp only[eqGuard_rem,binOp_rem,Op.intDiv,Sem.run_bind,Sem.run_pure,Result.andThen_ok,Sem.run_ite];rw[Wb h0]
  ·rename_i k m a0 m' hx C
   obtain⟨h0,h⟩:=h;refine j _ h fun w=>?_;simp only[execOp,hx,C];refine QBd ?_;simp only[eqGuard_shl,binOp_shl,Op.shift,Sem.run_bind,Sem.run_pure,Result.andThen_ok,Sem.run_ite];rw[Wb Om]
  ·rename_i k m a0 m' hx C
   obtain⟨h0,h⟩:=h;refine j _ h fun w=>?_;simp only[execOp,hx,C];refine QBd ?_;simp only[eqGuard_shr,binOp_shr,Op.shift,Sem.run_bind,Sem.run_pure,Result.andThen_ok,Sem.run_ite];rw[Wb Om]
  ·rename_i s b5 hx C
   obtain⟨b6,h⟩:=h;refine j _ h fun w=>?_;simp only[execOp,hx,C];refine QBd ?_;simp only[eqGuard_add,binOp,Op.stringOp,Sem.run_bind,Sem.run_pure,Result.andThen_ok,Sem.run_ite];rw[Wb (by simp only[IntKind.max_i64];omega)]
  ·cases C:QWJ y with
   | false=>
    rw[C]at h;simp only[cond_false]at h
    cases G:QgM P xt y with
    | some f=>
     rw[G]at h;obtain⟨b,hv,h⟩:=h
     exact j _ h fun w=>by simp only[execOp];exact QBd (QV4 (x:=x) G hv ρ w).1
    | none=>
     rw[G]at h
     cases hb:QRf P xt (ev ρ x) (ev ρ y) with
     | none=>rw[hb]at h;exact B h
     | some b=>
      rw[hb]at h
      exact j _ h fun w=>by simp only[execOp];exact QBd (QTH hb w).1
   | true=>
    rw[C]at h;simp only[cond_true]at h
    cases hb:QUs P xt (ev ρ x) with
    | none=>rw[hb]at h;exact B h
    | some b=>
     rw[hb]at h;obtain⟨a5,h⟩:=QAG h
     exact j _ h fun w=>by simp only[execOp];exact QBd (QSJ (x:=x) hb (ρ:=ρ) a5 w).1
  ·cases C:QWJ y with
   | false=>
    rw[C]at h;simp only[cond_false]at h
    cases G:QgM P xt y with
    | some f=>
     rw[G]at h;obtain⟨b,hv,h⟩:=h
     exact j _ h fun w=>by simp only[execOp];exact QBd (QV4 (x:=x) G hv ρ w).2
    | none=>
     rw[G]at h
     cases hb:QRf P xt (ev ρ x) (ev ρ y) with
     | none=>rw[hb]at h;exact B h
     | some b=>
      rw[hb]at h
      exact j _ h fun w=>by simp only[execOp];exact QBd (QTH hb w).2
   | true=>
    rw[C]at h;simp only[cond_true]at h
    cases hb:QUs P xt (ev ρ x) with
    | none=>rw[hb]at h;exact B h
    | some b=>
     rw[hb]at h;obtain⟨a5,h⟩:=QAG h
     exact j _ h fun w=>by simp only[execOp];exact QBd (QSJ (x:=x) hb (ρ:=ρ) a5 w).2
  ·exact B h
 | pick c x y=>
  simp only[QBS,QFq,QCx,QCu,QIl,QIj,QI9,QIK,QIL,QGu,QBj,QBn,QBz,QDo,QCJ]at h;cases hc:ev ρ c<;>rw[hc]at h<;>try exact h.elim
  rename_i b
  simp only[execOp];refine j _ h fun w=>?_;simp only[execOp];rw[hc,QPz,QQz];simp only[asBool,Sem.run_bind,Sem.run_pure,Result.andThen_ok]
 | call c=>
  simp only[QBS,QFq,QCx,QCu,QIl,QIj,QI9,QIK,QIL,QGu,QBj,QBn,QBz,QDo,QCJ]at h
  cases hc:c.callee with
  | value f=>simp[QEA,hc]at H
  | invoke r m=>simp[QEA,hc]at H
  | builtin b=>
   rw[hc]at h;obtain⟨F,g,A⟩:∃F:WP,_=F/\F w:=⟨_,rfl,h⟩;clear h;have h:=A;clear A
   have O:∀l,c.args.toList=l->c.args=l.toArray:=fun l e=>by rw[<-e]
   have W:∀l,c.argTypes.toList=l->c.argTypes=l.toArray:=fun l e=>by rw[<-e]
   cases b<;>simp only at g <;> (try (subst g;exact B h)) <;> (try (simp[QEA,hc]at H;done))
   ·-- cap
    split at g
    ·rename_i t x S hx
     split at g<;>subst g
     ·rename_i p hv
      refine j _ h fun w=>?_;simp[execOp,resolve,hc,invoke,builtin,Builtin.cap_,O _ hx,W _ S,run_underlying p,hv,goInt]
     ·exact B h
    ·subst g;exact B h
   ·-- len
    split at g
    ·rename_i t x S hx
     split at g<;>subst g
     ·rename_i p hv
      refine j _ h fun w=>?_;simp[execOp,resolve,hc,invoke,builtin,Builtin.len_,O _ hx,W _ S,run_underlying p,hv,goInt]
     ·rename_i p hv
      refine j _ h fun w=>?_;simp[execOp,resolve,hc,invoke,builtin,Builtin.len_,O _ hx,W _ S,run_underlying p,hv,goInt]
     ·rename_i p
      refine j _ h fun w=>?_;simp[execOp,resolve,hc,invoke,builtin,Builtin.len_,O _ hx,W _ S,run_underlying p,goInt]
     ·exact B h
    ·subst g;exact B h
   ·-- max
    split at g
    ·rename_i x y hx
     split at g<;>subst g
     ·rename_i L hb
      refine j _ h fun w=>?_;simp[execOp,resolve,hc,invoke,builtin,Builtin.max_,Builtin.max2,O _ hx,L,hb]
     ·exact B h
    ·rename_i x y z hx
     split at g<;>subst g
     ·rename_i L hb a1
      obtain⟨G,T⟩:=QAG h;simp only[Wf,Wq]at G;obtain⟨rfl,rfl⟩:=G;refine j _ T fun w=>?_;simp[execOp,resolve,hc,invoke,builtin,Builtin.max_,Builtin.max2,O _ hx,L,hb,a1]
     ·exact B h
    ·subst g;exact B h
   ·-- min
    split at g
    ·rename_i x y hx
     split at g<;>subst g
     ·rename_i L hb
      refine j _ h fun w=>?_;simp[execOp,resolve,hc,invoke,builtin,Builtin.min_,Builtin.min2,O _ hx,L,hb]
     ·exact B h
    ·rename_i x y z hx
     split at g<;>subst g
     ·rename_i L hb a1
      obtain⟨G,T⟩:=QAG h;simp only[Wf,Wq]at G;obtain⟨rfl,rfl⟩:=G;refine j _ T fun w=>?_;simp[execOp,resolve,hc,invoke,builtin,Builtin.min_,Builtin.min2,O _ hx,L,hb,a1] <;> rfl
     ·exact B h
    ·subst g;exact B h
 | build t parts=>
  simp only[QBS,QFq,QCx,QCu,QIl,QIj,QI9,QIK,QIL,QGu,QBj,QBn,QBz,QDo,QCJ]at h
  cases hb:QVn P t (QNh ρ parts.toList) with
  | none=>rw[hb]at h;exact h.elim
  | some cs=>
   rw[hb]at h;refine j _ h fun w=>?_;simp only[execOp];refine QBd (QXz ?_ w);rw[QR7];exact hb
 | field t x f=>
  obtain⟨F,g,A⟩:∃F,QBS P _ ρ K=F/\F w:=⟨_,rfl,h⟩;clear h;have h:=A;clear A;simp only[QBS,QFq,QCx,QCu,QIl,QIj,QI9,QIK,QIL,QGu,QBj,QBn,QBz,QDo,QCJ]at g;split at g
  ·rename_i fs cs p hx
   cases a7:fs.toList[f]? with
   | none=>rw[a7]at g;subst g;exact h.elim
   | some fd=>
   rw[a7]at g
   have a':fs[f]? = some fd:=Si a7
   simp only at g
   cases J:QBy P fd.type with
   | true=>
    rw[J]at g;simp only[cond_true]at g;obtain⟨d,I⟩:=QC4 J
    cases a8:QIU P fd.type with
    | none=>rw[a8]at g;subst g;exact h.elim
    | some n=>
     rw[a8]at g;subst g;refine j _ h fun w=>?_;simp only[execOp,Instr.field,hx,asAgg,part,Sem.run_bind,run_underlying p,Result.andThen_ok,a',Sem.run_pure,QCE I,J,O7,QEP a8];congr 4;apply Zt;simp[List.extract_eq_take_drop]
   | false=>
    rw[J]at g;simp only[cond_false]at g;split at g<;>subst g
    ·rename_i d v I hv
     have b4:cs[fd.offset]? = some v:=Si hv
     refine j _ h fun w=>?_;simp only[execOp,Instr.field,hx,asAgg,part,Sem.run_bind,run_underlying p,Result.andThen_ok,a',Sem.run_pure,QCE I,J,Wi,Oa,b4]
    ·exact h.elim
  ·subst g;exact h.elim
 | convert sT dT x=>
  obtain⟨F,g,A⟩:∃F,QBS P _ ρ K=F/\F w:=⟨_,rfl,h⟩;clear h;have h:=A;clear A;simp only[QBS,QFq,QCx,QCu,QIl,QIj,QI9,QIK,QIL,QGu,QBj,QBn,QBz,QDo,QCJ]at g;split at g
  ·rename_i e a2 a3
   simp[QEA,a2,a3]at H
  ·rename_i e a2 a3
   simp[QEA,a2,a3]at H
  ·subst g;exact B h
 | store t x y=>simp[QEA]at H
 | alloc e=>simp[QEA]at H
 | box e x=>simp[QEA]at H
 | buildSlice t n ps=>simp[QEA]at H
 | makeSlice t x y=>simp[QEA]at H
 | lookup t x i ok=>simp[QEA]at H
 | mapUpdate t m k x=>simp[QEA]at H
 | makeMap t r=>simp[QEA]at H
 | range t x=>simp[QEA]at H
 | next t x=>simp[QEA]at H
 | move x=>
  simp only[QBS,QBz,QCJ]at h;exact j _ h fun _=>rfl
 | assign x=>
  simp only[QBS,QBz,QCJ]at h;exact j _ h fun _=>rfl
 | fieldAddr t x f=>
  simp only[QBS,QDo,QCJ]at h;exact B h
 | _=>simp only[QBS,QCJ]at h;exact B h
def QLq(ρ:Env)(o:Oper):Bool:=match o.op with
 | .call c=>(QHj ρ c.callee).isSome
 | _=>false
theorem QUg{rn:Option Nat}{ρ:Env}{a:Act}{o:Oper}{K:Env->WP}{next:Act->World->Prop}{Q:Exit->Act->World->Prop}
  (u:∀cs b,o.op≠.select cs b) (z:∀x∈o.op.operands,a.eval x=ev ρ x) (d:QLq ρ o=true) (h:QBS P o ρ K w)
  (A:∀v w',K (put ρ o.dst v) w'->next (a.put o.dst v) w'):o.wpIn (FF rn) 0 P a w next Q:=by
 obtain⟨dst,op,g,pos,i,guard⟩:=o;have he:execOp a.eval ⟨dst,op,g,pos,i,guard⟩=execOp (ev ρ) ⟨dst,op,g,pos,i,guard⟩:=execOp_congr _ u z;have q:∀v w',K (put ρ dst v) w'->next (a.put dst v) w':=A;unfold QLq at d
 cases op with
 | call c=>
  simp only at d;simp only[QBS,QFq,QCx,QCu,QIl,QIj,QI9,QIK,QIL,QGu,QBj,QBn,QBz,QDo,QCJ]at h
  cases hc:c.callee with
  | value f=>
   rw[hc]at h d;simp only[callee,QHj]at h d;cases hv:ev ρ f<;>rw[hv]at h d<;>try (cases d;done)
   rename_i fn first B
   cases fn<;>try (cases d;done)
   rename_i l
   simp only at h;generalize QiM P g=r at h;obtain⟨k,ss⟩:=r
   cases k with
   | agg=>exact h.elim
   | tup l=>exact h.elim
   | one=>
    cases ss with
    | nil=>exact h.elim
    | cons s ss=>
     cases ss with
     | cons _ _=>cases s<;>exact h.elim
     | nil=>
      cases s<;>try exact h.elim
      obtain⟨fn,tmps,assign,body,j,n⟩:=h;refine⟨fun _ _=>trivial,?_⟩;rw[Oper.semAt_eq _ _ _ (by simp),he]
      have e:(first.toList++c.args.toList.map (ev ρ)).toArray=first++c.args.map (ev ρ):=by apply Zt;simp
      rw[e]at j
      have hx:(execOp (ev ρ) ⟨dst,.call c,g,pos,i,guard⟩).run P w=.ok (.round l fn tmps assign body) w:=by
       simp only[execOp,resolve,hc,Deferred.ofValue,hv,invoke,Sem.run_bind,Sem.run_pure,Result.andThen_ok];exact j
      rw[hx];refine⟨fun h=>(by cases h),?_⟩;refine RoundIn.mono (F:=FF rn) n ?_;rintro e w' ⟨b,rfl,p⟩;exact q _ _ p
  | invoke r m=>rw[hc]at d;cases d
  | builtin b=>rw[hc]at d;cases d
 | _=>cases d
set_option maxHeartbeats 1000000 in
theorem QQw{rn:Option Nat}{ρ:Env}{a:Act}{o:Oper}{K:Env->WP}{next:Act->World->Prop}{Q:Exit->Act->World->Prop}
  (hn:QHG P) (a3:∀w',Pan.q w'->Q (.panic Pan.ch) a w') (B:∀cs b,o.op≠.select cs b) (U:∀x∈o.op.operands,a.eval x=ev ρ x) (h:QBS P o ρ K w)
  (V:∀v w',K (put ρ o.dst v) w'->next (a.put o.dst v) w'):o.wpIn (FF rn) 0 P a w next Q:=by
 rcases Ll (QLq ρ o) with L|L
 ·exact QUg B U L h V
 obtain⟨dst,op,A,pos,C,guard⟩:=o;have he:execOp a.eval ⟨dst,op,A,pos,C,guard⟩=execOp (ev ρ) ⟨dst,op,A,pos,C,guard⟩:=execOp_congr _ B U;have p:∀v w',K (put ρ dst v) w'->next (a.put dst v) w':=V;refine QIF (fun c e=>?_) ?_
 ·simp only at e;subst e
  cases D:QEA P ⟨dst,.defer c,A,pos,C,guard⟩ with
  | false=>simp[QEA]at D
  | true=>
   obtain⟨v,_,j,_⟩:=QM6 D h;simp only[execOp,Sem.run_bind]at j
   cases S:(resolve (ev ρ) c A).run P w with
   | ok d w'=>rw[S]at j;simp only[Result.andThen_ok,Sem.run_pure]at j;cases j
   | halt x w'=>rw[S]at j;cases j
 unfold Oper.wp;rw[he]
 cases D:QEA P ⟨dst,op,A,pos,C,guard⟩ with
 | true=>
  obtain⟨v,E,j,_⟩:=QM6 D h;rw[j];exact p _ _ E
 | false=>
  cases op with
  | store t x y=>
   simp only[QBS,QFq,QCx,QCu,QIl,QIj,QI9,QIK,QIL,QGu,QBj,QBn,QBz,QDo,QCJ]at h;simp only[execOp];cases hx:ev ρ x<;>rw[hx]at h<;>try exact h.elim
   rename_i q
   cases q with
   | none=>exact h.elim
   | some ad=>
   simp only at h
   cases hsz:QIU P t with
   | none=>rw[hsz]at h;exact h.elim
   | some n=>
    rw[hsz]at h;obtain⟨hb,h⟩:=QAG h;have hb:=Wo hb;obtain⟨w',hv,h⟩:=QTG (P:=P) _ _ _ _ _ h;refine QSc (w':=w') ?_ (p _ _ h);simp only[Instr.storeAt,Instr.sureAddr,Sem.run_bind,Sem.run_pure,Result.andThen_ok,storeVar,QEP hsz,Sem.run_ite];rw[Wb (by simp only[Zy]at hb;omega)];exact hv
  | alloc e=>
   simp only[QBS,QFq,QCx,QCu,QIl,QIj,QI9,QIK,QIL,QGu,QBj,QBn,QBz,QDo,QCJ]at h;simp only[execOp]
   cases hi:P.info? e with
   | none=>rw[hi]at h;exact h.elim
   | some i=>
    rw[hi]at h;simp only[Option.bind_some]at h
    cases H:i.zero with
    | none=>rw[H]at h;exact h.elim
    | some z=>
     rw[H]at h;refine QCs (w':=w.alloc (.cells z.cells e)) ?_ (p _ _ h);simp[Instr.alloc,zeroValue,QVh hi,H,newVar,newRow]
  | box e x=>
   simp only[QBS,QFq,QCx,QCu,QIl,QIj,QI9,QIK,QIL,QGu,QBj,QBn,QBz,QDo,QCJ]at h;simp only[execOp];refine QCs (w':=w.alloc (.cells (ev ρ x).cells e)) ?_ (p _ _ h);simp[Instr.box,newVar,newRow]
  | call c=>
   simp only[QBS,QFq,QCx,QCu,QIl,QIj,QI9,QIK,QIL,QGu,QBj,QBn,QBz,QDo,QCJ]at h
   cases hc:c.callee with
   | value f=>
    rw[hc]at h;simp only[callee,QHj]at h;cases hv:ev ρ f<;>rw[hv]at h<;>try exact h.elim
    rename_i fn first G
    cases fn<;>try exact h.elim
    case yield l=>simp only[QLq,hc,QHj,hv]at L;cases L
    rename_i g
    simp only at h
    have e:(first.toList++c.args.toList.map (ev ρ)++G.toList).toArray=first++c.args.map (ev ρ)++G:=by
     apply Zt;simp
    cases hb:QBN P g with
    | false=>
     rw[hb]at h;simp only[cond_false]at h;generalize QiM P A=r at h;obtain⟨Z,ss⟩:=r
     cases Z with
     | agg=>exact h.elim
     | tup l=>exact h.elim
     | one=>
      cases ss with
      | nil=>exact h.elim
      | cons s ss=>
       cases ss with
       | cons _ _=>exact h.elim
       | nil=>
        obtain⟨x,w',R,h⟩:=h;rw[e]at R
        have hx:(execOp (ev ρ) ⟨dst,.call c,A,pos,C,guard⟩).run P w=.ok (.value (s.mk x)) w':=by
         simp only[execOp,resolve,hc,Deferred.ofValue,hv,invoke,Sem.run_bind,Sem.run_pure,Result.andThen_ok];exact R
        rw[hx];exact p _ _ h
    | true=>
    rw[hb]at h;simp only[cond_true]at h
    have hx:(execOp (ev ρ) ⟨dst,.call c,A,pos,C,guard⟩).run P w=.ok (.enter g (first++c.args.map (ev ρ)++G)) w:=by
     unfold QBN at hb
     cases M:P.funcs[g]? with
     | none=>rw[M]at hb;cases hb
     | some fd=>
      rw[M]at hb;have a1:=hn g fd M
      have a2:fd.body.isNone=false:=by cases a5:fd.body<;>simp_all
      simp only[execOp,resolve,hc,Deferred.ofValue,hv,invoke,callFunc,Sem.run_bind,Sem.run_pure,Result.andThen_ok,run_program,M,a1,a2,Wi,Oa]
    rw[hx];simp only[Oper.upon]
    have e:(first.toList++c.args.toList.map (ev ρ)++G.toList).toArray=first++c.args.map (ev ρ)++G:=by
     apply Zt;simp
    cases T:Pan.may g with
    | false=>
     rw[T]at h;simp only[cond_false]at h;unfold QAX QG1 at h;rw[e]at h;refine h.mono ?_;rintro e w' ⟨t,rfl,E⟩;rw[Cur.app_of]at E;exact p _ _ E
    | true=>
     rw[T]at h;simp only[cond_true]at h;unfold QGy QFk at h;rw[e]at h;refine h.mono ?_;rintro e w' (⟨t,rfl,E⟩|⟨rfl,a0⟩)
     ·rw[Cur.app_of]at E;exact p _ _ E
     ·exact a3 _ a0
   | invoke r m=>rw[hc]at h;exact h.elim
   | builtin b=>
    rw[hc]at h
    have N:c.args.map (ev ρ)=(c.args.toList.map (ev ρ)).toArray:=by apply Zt;simp
    cases b <;> (try (simp[QEA,hc]at D;done))
    ·obtain⟨s,w',j,h⟩:=h
     have hx:(execOp (ev ρ) ⟨dst,.call c,A,pos,C,guard⟩).run P w=.ok (.value s.v) w':=by
      rw[<-N]at j;simp only[execOp,resolve,hc,Sem.run_bind,Sem.run_pure,Result.andThen_ok,invoke,builtin,j]
     rw[hx];exact p _ _ h
    ·obtain⟨s,w',j,h⟩:=h
     have hx:(execOp (ev ρ) ⟨dst,.call c,A,pos,C,guard⟩).run P w=.ok (.value s) w':=by
      rw[<-N]at j;simp only[execOp,resolve,hc,Sem.run_bind,Sem.run_pure,Result.andThen_ok,invoke,builtin,j]
     rw[hx];exact p _ _ h
    ·obtain⟨s,w',j,h⟩:=h
     have hx:(execOp (ev ρ) ⟨dst,.call c,A,pos,C,guard⟩).run P w=.ok (.value (.int .i64 s)) w':=by
      rw[<-N]at j;simp only[execOp,resolve,hc,Sem.run_bind,Sem.run_pure,Result.andThen_ok,invoke,builtin,j]
     rw[hx];exact p _ _ h
  | buildSlice t len parts=>
   obtain⟨F,u,I⟩:∃F,QBS P _ ρ K=F/\F w:=⟨_,rfl,h⟩;clear h;have h:=I;clear I;simp only[QBS,QFq,QCx,QCu,QIl,QIj,QI9,QIK,QIL,QGu,QBj,QBn,QBz,QDo,QCJ]at u;split at u
   ·rename_i e W
    split at u
    ·rename_i n z B H
     subst u;obtain⟨hb,h⟩:=QAG h;simp only[Wf]at hb
     cases O:QOY (fun i=>some (i*n,n)) (QJI z len) (QNh ρ parts.toList) with
     | none=>rw[O]at h;exact h.elim
     | some cs=>
      rw[O]at h;simp only[execOp];refine QCs (QMq W B H (Kb hb.1) (Wo hb.2) ?_ w) (p _ _ h);rw[QR7];exact O
    ·subst u;exact h.elim
   ·subst u;exact h.elim
  | makeSlice t x y=>
   simp only[QBS,QCJ]at h;obtain⟨s,w',j,h⟩:=h;simp only[execOp];exact QCs j (p _ _ h)
  | makeMap t r=>
   simp only[QBS,QCJ]at h;obtain⟨s,w',j,h⟩:=h;simp only[execOp];exact QCs j (p _ _ h)
  | range t x=>
   simp only[QBS,QFq,QCx,QCu,QIl,QIj,QI9,QIK,QIL,QGu,QBj,QBn,QBz,QDo,QCJ]at h;simp only[execOp]
   cases J:P.underlying t with
   | none=>rw[J]at h;exact h.elim
   | some d=>
    rw[J]at h;cases d<;>try exact h.elim
    obtain⟨s,w',j,h⟩:=h;exact QCs j (p _ _ h)
  | next it s=>
   simp only[QBS,QFq,QCx,QCu,QIl,QIj,QI9,QIK,QIL,QGu,QBj,QBn,QBz,QDo,QCJ]at h;simp only[execOp];obtain⟨B,h⟩:=QAG h;subst B;obtain⟨a4,w',j,⟨rfl,h⟩|⟨i,c,rfl,h⟩⟩:=h
   ·exact QCs j (p _ _ h)
   ·exact QCs j (p _ _ h)
  | mapUpdate t m k x=>
   simp only[QBS,QCJ]at h;obtain⟨w',j,h⟩:=h;simp only[execOp];exact QSc j (p _ _ h)
  | lookup t x i ok=>
   simp only[QBS,QFq,QCx,QCu,QIl,QIj,QI9,QIK,QIL,QGu,QBj,QBn,QBz,QDo,QCJ]at h;simp only[execOp]
   cases J:P.underlying t with
   | none=>rw[J]at h;exact h.elim
   | some d=>
    rw[J]at h;cases d<;>try exact h.elim
    rename_i k e
    simp only at h
    cases B:QBm P 20 e with
    | nil=>rw[B]at h;exact h.elim
    | cons s ss=>
     cases ss with
     | cons _ _=>rw[B]at h;exact h.elim
     | nil=>
      rw[B]at h;simp only at h;obtain⟨_,h⟩:=QAG h
      cases ok with
      | true=>
       obtain⟨v,b,w',j,h⟩:=h;exact QCs j (p _ _ h)
      | false=>
       obtain⟨v,w',j,h⟩:=h;exact QCs j (p _ _ h)
  | convert sT dT x=>
   obtain⟨F,u,I⟩:∃F,QBS P _ ρ K=F/\F w:=⟨_,rfl,h⟩;clear h;have h:=I;clear I;simp only[QBS,QFq,QCx,QCu,QIl,QIj,QI9,QIK,QIL,QGu,QBj,QBn,QBz,QDo,QCJ]at u;split at u
   ·rename_i e X Y
    subst u;obtain⟨s,w',j,h⟩:=h;simp only[execOp];exact QCs j (p _ _ h)
   ·rename_i e X Y
    subst u;obtain⟨s,w',j,h⟩:=h;simp only[execOp];exact QCs j (p _ _ h)
   ·subst u;simp only[QEA]at D;exact absurd D (by simp)
  | _=>simp[QEA]at D
theorem QUI{rn:Option Nat}{g:List Deferred}{N:Nat}{ρ:Env}{a:Act}{o:Oper}{K:Env->WP}{next:Act->World->Prop}{Q:Exit->Act->World->Prop}
  (hn:QHG P) (i:∀w',Pan.q w'->Q (.panic Pan.ch) a w') (j:Fits N g ρ a) (d:QTv N ρ o=true) (h:QBS P o ρ K w)
  (k:∀v w',K (put ρ o.dst v) w'->next (a.put o.dst v) w'):o.wpIn (FF rn) 0 P a w next Q:=by
 simp only[QTv,Wf,Ot]at d;obtain⟨⟨f,_⟩,c⟩:=d;exact QQw hn i (fun cs b e=>by rw[e]at c;simp at c) (fun x hx=>j.eval (f x (Si hx))) h k
end ops
end Go.Cf
