/-
  The tree of keys: what its calls do.
  The tree of keys: putting.
  The tree of keys: Put, New, Len.
  The tree of keys: Range.
  The tree of keys: how many.
-/
import Derived.Test.YtlcnhajfgilipaaGreatDoorDK
namespace Go.Cx
open Go Go.Cf
set_option linter.unusedVariables false
set_option maxRecDepth 100000
variable {B:Base}{As F:List HP}
def KE:Enc KY:=⟨fun k=>[.int .i64 k.1,.int .i64 k.2],2,fun _=>rfl,fun x v h=>by simp at h;rcases h with rfl | rfl<;>rfl,by decide,(0,0)⟩
def PE:Enc (Option Addr):=⟨fun a=>[.pointer a],1,fun _=>rfl,fun x v h=>by simp at h;subst h;rfl,by decide,none⟩
theorem below_spec (a b:KY):Ct Pr F_tree_below [.agg #[.int .i64 a.1,.int .i64 a.2],.agg #[.int .i64 b.1,.int .i64 b.2]] .one [.bool] [] emp (fun t Bs=>t.1=ltK a b∧Bs=[]):=by
  refine spec1 c_tree_below fun B _=>?_
  have fin:∀ {x:Bool}{As:List HP},x=ltK a b→Ent B As (Ret B (ss:=[.bool]) (fun t Bs=>t.1=ltK a b∧Bs=[]) (x,())):=fun h=>xkeep (l:=[]) (xret ⟨h,rfl⟩)
  unfold tree_below
  refine xnew fun b1=>xnew fun b2=>xget (h:=xget (h:=xjoin (xif_dec (fun h=>fin ?_) (fun h=>xget (h:=xget (h:=xjoin (xif (fun h2=>xget (h:=xget (h:=fin ?_))) (fun h2=>fin ?_))))))))
  · unfold ltK;simp [h]
  · have h2':a.1=b.1:=by simpa using h2
    unfold ltK;simp [h,h2']
  · have h2':a.1≠b.1:=by simpa using h2
    unfold ltK;simp [h,h2']
theorem plK_step {ks:List KY}{k y:KY}{j:Nat}(h:j≤plK ks k) (hy:ks[j]? = some y) (hl:ltK y k=true):j+1≤plK ks k:=by
  rcases Nat.lt_or_ge j (plK ks k) with h1 | h1
  · exact h1
  · obtain rfl:j=plK ks k:=by omega
    rw [plK_ge hy] at hl;cases hl
theorem plK_stop {ks:List KY}{k y:KY}{j:Nat}(h:j≤plK ks k) (hy:ks[j]? = some y) (hl:ltK y k=false):plK ks k=j:=by
  rcases Nat.lt_or_ge j (plK ks k) with h1 | h1
  · rw [plK_lt j y h1 hy] at hl;cases hl
  · omega
theorem place_raw (b:Nat) (s:Sl) (v c:Value) (l:List KY) (k:KY) (hl:l.length≤1000):Ct Pr F_tree_page_place [.pointer (some ⟨b,0,none⟩),.agg #[.int .i64 k.1,.int .i64 k.2]] (.tup [none,none]) [.int .i64,.bool] [Blk b [s.v,v,c],Ar KE s l] emp
    (fun t Bs=>t.1=(plK l k:Int)∧t.2.1=decide (l[plK l k]? = some k)∧Bs=[Blk b [s.v,v,c],Ar KE s l]):=by
  refine spec2 c_tree_page_place fun B _=>?_
  unfold tree_page_place
  refine xnew fun b0=>?_
  refine xlen (E:=KE) (xs:=l) s fun hn _=>?_
  refine xloop1 (fun n x As'=>∃ j:Nat,x=(j:Int)∧n=l.length - j∧j≤plK l k∧As'=[Blk b0 [.int .i64 k.1,.int .i64 k.2],Blk b [s.v,v,c],Ar KE s l]) l.length ⟨0,rfl,rfl,by omega,rfl⟩ ?_
  rintro n x As' K ⟨j,rfl,rfl,hj,rfl⟩ hK
  have hpl:=plK_le l k
  refine xdraw (xjoin1 (fun(c1:Bool) As'=>(c1=true→j+1≤plK l k)∧(c1=false→plK l k=j)∧As'=[Blk b0 [.int .i64 k.1,.int .i64 k.2],Blk b [s.v,v,c],Ar KE s l]) (fun K1 hK1=>?_) ?_)
  · refine xnil (xget (h:=xif_dec (fun h=>?_) (fun h=>?_)))
    · have hlt:j<l.length:=by omega
      have hy:=List.getElem?_eq_getElem hlt
      refine xnil (xget (h:=?_))
      refine xidxn (E:=KE) (xs:=l) (s:=s) (h1:=hlt) (h:=fun y hy'=>?_)
      refine xgetE (E:=KE) (xs:=l) hy' (h:=?_)
      refine xgetEj (E:=KE) (xs:=l) hy' (h:=xget (h:=xget (h:=?_)))
      refine xcall0 (below_spec y k) rdb ?_
      rintro ⟨t,_⟩ _ ⟨ht,rfl⟩
      simp only at ht;subst ht
      exact app0 (ca1 (hK1 _ _ ⟨fun e=>plK_step hj hy' e,fun e=>plK_stop hj hy' e,rfl⟩))
    · exact hK1 _ _ ⟨fun e=>(by cases e),fun _=>by omega,rfl⟩
  · rintro c1 As2 ⟨h1,h2,rfl⟩
    refine xif (fun h=>?_) (fun h=>?_)
    · have:=h1 h
      rw [wrap_succ j (by omega)]
      exact hK _ _ _ (by omega) ⟨j+1,rfl,rfl,by omega,rfl⟩
    · have e:=h2 h
      refine xdraw (xjoin (xnil (xget (h:=xif_dec (fun h=>?_) (fun h=>?_)))))
      · have hlt:j<l.length:=by omega
        refine xnil (xget (h:=?_))
        refine xidxn (E:=KE) (xs:=l) (s:=s) (h1:=hlt) (h:=fun y hy'=>?_)
        refine xgetE (E:=KE) (xs:=l) hy' (h:=?_)
        refine xgetEj (E:=KE) (xs:=l) hy' (h:=xget (h:=xget (h:=?_)))
        refine xdrop 0 (xret ⟨by rw [e],?_,rfl⟩)
        rw [e,hy',Bool.eq_iff_iff]
        simp [Prod.ext_iff]
      · refine xdrop 0 (xret ⟨by rw [e],?_,rfl⟩)
        rw [e,List.getElem?_eq_none (by omega)]
        simp
def midL {α:Type}(xs:List α) (i:Nat) (x:α):List α:=(xs++[x]).take (i+1)++xs.drop i
theorem mid_set {α:Type}{xs:List α}{i:Nat}{x:α}(h:i≤xs.length):(midL xs i x).set i x=insAt xs i x:=by
  apply List.ext_getElem?
  intro j
  unfold midL insAt
  rcases Nat.lt_trichotomy j i with hj | hj | hj
  · rw [List.getElem?_set_ne (by omega),List.getElem?_append_left (by simp;omega),List.getElem?_take_of_lt (by omega),List.getElem?_append_left (by omega),List.getElem?_append_left (by simp;omega),List.getElem?_take_of_lt hj]
  · subst hj
    rw [List.getElem?_set_self (by simp;omega),List.getElem?_append_right (by simp;omega),List.length_take,Nat.min_eq_left h]
    simp
  · rw [List.getElem?_set_ne (by omega),List.getElem?_append_right (by simp;omega),List.getElem?_append_right (by simp;omega)]
    simp only [List.length_take,List.length_append,List.length_singleton,Nat.min_eq_left h]
    rw [Nat.min_eq_left (by omega),show j - i=(j - (i+1))+1 by omega,List.getElem?_cons_succ]
theorem mid_get {α:Type}{xs:List α}{i:Nat}{x:α}(h:i≤xs.length):∃ y,(midL xs i x)[i]? = some y:=⟨_,List.getElem?_eq_getElem (by unfold midL;simp;omega)⟩
theorem xput {P:Program}{t ty e:TypeId}{sz by_:Nat}{z:List Value} [a:AppT P t e sz by_ z] {α:Type}{E:Enc α}{s:Sl}{xs:List α}{x:α}{i:Nat}{K:Int→WP}(hi:i≤xs.length) (hm:xs.length<4611686018427387904) (hsz:E.sz=sz:=by rfl)
    (h:∀ n,Ent B (Ar E s (midL xs i x)::F) (K n)):Ent B (Ar E s (xs++[x])::F) (XSlc s (IntKind.i64.wrap ((i:Int)+1)) s.n s.c sz fun s1=>XSlc s (i:Int) s.n s.c sz fun s2=>XCopy P t t ty s1.v s2.v fun n=>K n):=by
  subst hsz
  refine xlen (E:=E) (xs:=xs++[x]) s fun hn hc=>?_
  have hn':xs.length+1=s.n:=by simpa using hn
  rw [wrap_id _ (by omega) (by omega)]
  refine xars 0 fun zs _ hzc=>?_
  refine xslc (by omega) (by omega) (by omega) (by omega) ?_
  refine xslc (by omega) (by omega) (by omega) (by omega) ?_
  have e1:((i:Int)+1).toNat=i+1:=by omega
  rw [e1,show ((i:Int)).toNat=i by omega,show ((s.n:Int)).toNat=s.n by omega,show ((s.c:Int)).toNat=s.c by omega]
  have hxc:xs.length+1+zs.length=s.c:=by simpa using hzc
  have hyl:((xs++[x]).drop i).length=xs.length+1 - i:=by simp
  have hmin:min ((xs++[x]).drop i).length (s.n - (i+1))=xs.length - i:=by rw [hyl];omega
  refine xcopy (E:=E) (ys:=(xs++[x]).drop i) (xs:=xs++[x]) (zs:=zs) (fun w hw=>?_) (midL xs i x) zs rfl hc ?_ ?_ ?_ (fun n=>xar (h n))
  · obtain ⟨g,hg,hs⟩:=hw.head
    have:=(hg.read.mono hs).cut i s.n s.c (by omega) hc (by simp;omega)
    rw [List.take_of_length_le (by simp;omega)] at this
    exact this
  · rw [hmin];simp;omega
  · unfold midL;simp;omega
  · rw [hmin,List.take_append_of_le_length (l₁:=xs++[x]) (by simp;omega)]
    have e2:((xs++[x]).drop i).take (xs.length - i)=xs.drop i:=by
      rw [List.drop_append_of_le_length hi,List.take_append_of_le_length (by simp),List.take_of_length_le (by simp)]
    have e3:(xs++[x]++zs).drop (i+1+(xs.length - i))=zs:=by
      rw [show i+1+(xs.length - i)=(xs++[x]).length by simp;omega,List.drop_left]
    rw [e2,e3];rfl
theorem putK_spec (s:Sl) (l:List KY) (i:Nat) (k:KY) (hi:i≤l.length) (hm:l.length≤1000):Ct Pr F_tree_put_api_Key_ [s.v,.int .i64 (i:Int),.agg #[.int .i64 k.1,.int .i64 k.2]] .one [.slice] [Ar KE s l] emp (fun t Bs=>Bs=[Ar KE t.1 (insAt l i k)]):=by
  refine spec1 c_tree_put_api_Key_ fun B _=>?_
  unfold tree_put_api_Key_
  refine xnew fun b=>xget (h:=xget (h:=xnew fun b1=>?_))
  refine xapp1 (E:=KE) k (hb:=by omega) (h:=fun s'=>xdraw ?_)
  refine xfront 1 ?_
  refine xput (E:=KE) hi (by omega) (h:=fun n=>?_)
  refine xget (h:=xget (h:=?_))
  obtain ⟨y,hy⟩:=mid_get (x:=k) hi
  have hml:i<(midL l i k).length:=(List.getElem?_eq_some_iff.1 hy).1
  refine xidxn (E:=KE) (xs:=midL l i k) (s:=s') (h1:=hml) (h:=fun y' hy'=>?_)
  obtain rfl:y'=y:=by rw [hy] at hy';exact (Option.some.inj hy').symm
  refine xsetE (E:=KE) (xs:=midL l i k) (k.1,y'.2) hy (hv:=rfl) (h:=?_)
  refine xsetEj (E:=KE) (xs:=(midL l i k).set i (k.1,y'.2)) (x:=(k.1,y'.2)) k (List.getElem?_set_self hml) (hj:=by decide) (hv:=rfl) (h:=?_)
  rw [List.set_set,mid_set hi]
  exact xdrop 1 (xret rfl)
theorem putI_spec (s:Sl) (l:List Int) (i:Nat) (k:Int) (hi:i≤l.length) (hm:l.length≤1000):Ct Pr F_tree_put_int_ [s.v,.int .i64 (i:Int),.int .i64 k] .one [.slice] [Ar I64 s l] emp (fun t Bs=>Bs=[Ar I64 t.1 (insAt l i k)]):=by
  refine spec1 c_tree_put_int_ fun B _=>?_
  unfold tree_put_int_
  refine xnew fun b=>?_
  refine xapp1 (E:=I64) k (hb:=by omega) (h:=fun s'=>xdraw ?_)
  refine xput (E:=I64) hi (by omega) (h:=fun n=>?_)
  obtain ⟨y,hy⟩:=mid_get (x:=k) hi
  have hml:i<(midL l i k).length:=(List.getElem?_eq_some_iff.1 hy).1
  refine xidxn (E:=I64) (xs:=midL l i k) (s:=s') (h1:=hml) (h:=fun y' hy'=>?_)
  refine xsetE (E:=I64) (xs:=midL l i k) k hy' (hv:=rfl) (h:=?_)
  rw [mid_set hi]
  exact xret rfl
theorem putP_spec (s:Sl) (l:List (Option Addr)) (i:Nat) (k:Option Addr) (hi:i≤l.length) (hm:l.length≤1000):Ct Pr F_tree_put__tree_page_ [s.v,.int .i64 (i:Int),.pointer k] .one [.slice] [Ar PE s l] emp (fun t Bs=>Bs=[Ar PE t.1 (insAt l i k)]):=by
  refine spec1 c_tree_put__tree_page_ fun B _=>?_
  unfold tree_put__tree_page_
  refine xnew fun b=>?_
  refine xapp1 (E:=PE) k (hb:=by omega) (h:=fun s'=>xdraw ?_)
  refine xput (E:=PE) hi (by omega) (h:=fun n=>?_)
  obtain ⟨y,hy⟩:=mid_get (x:=k) hi
  have hml:i<(midL l i k).length:=(List.getElem?_eq_some_iff.1 hy).1
  refine xidxn (E:=PE) (xs:=midL l i k) (s:=s') (h1:=hml) (h:=fun y' hy'=>?_)
  refine xsetE (E:=PE) (xs:=midL l i k) k hy' (hv:=rfl) (h:=?_)
  rw [mid_set hi]
  exact xret rfl
theorem Ars.clip {α:Type}{E:Enc α}{p:Option Addr}{n c:Nat}{xs zs:List α}{h:Frag}(ha:Ars E ⟨p,n,c⟩ xs zs h) (r:Nat) (hr:r≤xs.length) (h0:0<r):Ars E ⟨p,r,r⟩ (xs.take r) [] h:=by
  obtain ⟨h1,h2,h3⟩:=ha
  simp only at h1 h2 h3
  refine ⟨by simp;omega,by simp;omega,?_⟩
  rcases h3 with ⟨_,h⟩ | ⟨b,o,pre,post,e,fr,hp,hb,ho,hfr,hM⟩
  · omega
  · have e0:pre++flat E (xs.take r++[])++(flat E (xs.drop r++zs)++post)=pre++flat E (xs++zs)++post:=by
      have:flat E (xs++zs)=flat E (xs.take r)++flat E (xs.drop r++zs):=by rw [←flat_append,←List.append_assoc,List.take_append_drop]
      rw [this,List.append_nil];simp only [List.append_assoc]
    exact .inr ⟨b,o,pre,flat E (xs.drop r++zs)++post,e,fr,hp,by rw [e0];exact hb,ho,by rw [e0];exact hfr,by simp only;omega⟩
theorem xclip {α:Type}{E:Enc α}{s:Sl}{xs:List α}{r sz:Nat}{ri:Int}{upd:Sl→List α→List HP}{rest:List HP} [o:OwnA s As E xs upd rest] {K:Sl→WP}(hri:ri=(r:Int)) (h0:0<r) (hr:r≤xs.length) (h:Ent B (upd ⟨s.p,r,r⟩ (xs.take r)) (K ⟨s.p,r,r⟩)):Ent B As (XSlc s 0 ri ri sz K):=by
  subst hri
  refine xlen (E:=E) (xs:=xs) s fun hn hc=>?_
  refine xslc (by omega) (by omega) (by omega) (by omega) ?_
  have e:s.cut (0:Int).toNat ((r:Int)).toNat ((r:Int)).toNat sz=⟨s.p,r,r⟩:=by
    unfold Sl.cut
    rw [show ((r:Int)).toNat=r by omega,if_neg (by simp;omega)]
    cases s.p<;>simp [Addr.add]
  rw [e]
  refine Ent.perm o.start (xclose (fun g hg=>?_) h)
  refine star_perm (o.perm _ _).symm (star_imp (fun q hq=>?_) hg)
  obtain ⟨zs,hq⟩:=hq
  obtain ⟨p,n,c⟩:=s
  exact ⟨[],Ars.clip hq r hr h0⟩
theorem rdA_cut {α:Type}{E:Enc α}{s:Sl}{xs:List α}{sz:Nat}{upd:Sl→List α→List HP}{rest:List HP} [o:OwnA s As E xs upd rest] (l:Nat) (hl:l≤xs.length) (hsz:E.sz=sz:=by rfl):RdA B As (s.cut l s.n s.c sz) E (xs.drop l):=⟨fun w hw=>by
  subst hsz
  obtain ⟨g,hg,hs⟩:=(hw.perm o.start).head
  have hn:=hg.read.1
  obtain ⟨zs,hz⟩:=id hg
  have:=(hg.read.mono hs).cut l s.n s.c (by omega) hz.cap (by omega)
  rw [List.take_of_length_le (by omega)] at this
  exact this⟩
def PageR {α:Type}(R:Option Addr→α→HP) (p:Option Addr) (pg:Pg α):HP:=fun h=>∃ b ks vs cs kp,p=some ⟨b,0,none⟩∧star [Blk b [ks.v,vs.v,cs.v],Ar KE ks pg.ks,Ar I64 vs pg.vs,Ar PE cs kp,Each R kp pg.kids] h
def ER:Option Addr→Empty→HP:=fun _ e=>e.elim
def PageO:(n:Nat)→Option Addr→PT n→HP
  | 0=>fun p (pg:Pg Empty)=>PageR ER p pg
  | n+1=>fun p (pg:Pg (PT n))=>PageR (PageO n) p pg
theorem xpage (i:Nat) {α:Type}{R:Option Addr→α→HP}{p:Option Addr}{pg:Pg α}{F:List HP} [q:Pick i As (PageR R p pg) F] {φ:WP}
    (k:∀ b ks vs cs kp,p=some ⟨b,0,none⟩→kp.length=pg.kids.length→cs.n=pg.kids.length→Ent B (Blk b [ks.v,vs.v,cs.v]::Ar KE ks pg.ks::Ar I64 vs pg.vs::Ar PE cs kp::Each R kp pg.kids::F) φ):Ent B As φ:=by
  refine Ent.perm q.perm ?_
  rintro w ⟨g,⟨a,c,⟨b,ks,vs,cs,kp,hp,pa⟩,pc,d,sa,sc⟩,hm,hu⟩
  have hl:kp.length=pg.kids.length∧cs.n=pg.kids.length:=by
    obtain ⟨_,_,_,⟨_,_,_,⟨_,_,_,⟨_,_,par,⟨_,_,pe,_⟩,_⟩,_⟩,_⟩,_⟩:=pa
    have:=pe.length
    exact ⟨this,by rw [←par.read.1,this]⟩
  exact k b ks vs cs kp hp hl.1 hl.2 w ⟨g,(star_append [_,_,_,_,_] F).2 ⟨a,c,pa,pc,d,sa,sc⟩,hm,hu⟩
theorem xpage_back (b:Nat) (ks vs cs:Sl) (kp:List (Option Addr)) {α:Type}{R:Option Addr→α→HP}{pg:Pg α}{G:List HP} [q:Split [Blk b [ks.v,vs.v,cs.v],Ar KE ks pg.ks,Ar I64 vs pg.vs,Ar PE cs kp,Each R kp pg.kids] As G] {φ:WP}
    (k:Ent B (PageR R (some ⟨b,0,none⟩) pg::G) φ):Ent B As φ:=
  xfold [Blk b [ks.v,vs.v,cs.v],Ar KE ks pg.ks,Ar I64 vs pg.vs,Ar PE cs kp,Each R kp pg.kids] (PageR R (some ⟨b,0,none⟩) pg) (fun g hg=>⟨b,ks,vs,cs,kp,rfl,hg⟩) k
theorem each_insert {α β:Type}{R:α→β→HP}{x:α}{y:β}:∀ {xs:List α}{ys:List β}{i:Nat}{h:Frag},i≤xs.length→star [R x y,Each R xs ys] h→Each R (insAt xs i x) (insAt ys i y) h
  | [],ys,i,h,hi,hh=>by
    obtain ⟨a,b,pa,⟨c,d,pc,_,_,sc,_⟩,dd,sa,sb⟩:=hh
    cases ys with
    | cons=>exact pc.elim
    | nil=>
      obtain rfl:i=0:=by simpa using hi
      exact ⟨a,b,pa,star_in (P:=Each R [] []) trivial,dd,sa,sb⟩
  | x'::xs,[],i,h,hi,hh=>by
    obtain ⟨a,b,pa,⟨c,d,pc,_⟩,_⟩:=hh
    exact pc.elim
  | x'::xs,y'::ys,0,h,hi,hh=>hh
  | x'::xs,y'::ys,i+1,h,hi,hh=>by
    have h1:star ([R x' y',Each R xs ys]++[R x y]) h:=star_flat1 (fun g hg=>hg) (star_swap hh)
    have h2:star [R x' y',R x y,Each R xs ys] h:=star_cons (fun g hg=>star_swap hg) h1
    exact star_cons (l':=[Each R (insAt xs i x) (insAt ys i y)]) (fun g hg=>star_in (each_insert (by simpa using hi) hg)) h2
theorem each_part {α β:Type}{R:α→β→HP}:∀ {xs:List α}{ys:List β}(n:Nat) {h:Frag},Each R xs ys h→star [Each R (xs.take n) (ys.take n),Each R (xs.drop n) (ys.drop n)] h
  | [],[],n,h,hh=>by simp only [List.take_nil,List.drop_nil];exact ⟨fun _=>none,h,trivial,star_in trivial,fun _=>.inl rfl,fun _ _ e=>(by cases e),Sub.refl _⟩
  | [],_::_,n,h,hh=>hh.elim
  | _::_,[],n,h,hh=>hh.elim
  | x::xs,y::ys,0,h,hh=>⟨fun _=>none,h,trivial,star_in hh,fun _=>.inl rfl,fun _ _ e=>(by cases e),Sub.refl _⟩
  | x::xs,y::ys,n+1,h,hh=>by
    have h1:star [R x y,Each R (xs.take n) (ys.take n),Each R (xs.drop n) (ys.drop n)] h:=star_cons (fun g hg=>by
      obtain ⟨a,b,pa,_,_,sa,_⟩:=hg
      exact star_mono _ (each_part n pa) sa) hh
    have h2:star ([R x y,Each R (xs.take n) (ys.take n)]++[Each R (xs.drop n) (ys.drop n)]) h:=h1
    exact star_fold1 (l:=[R x y,Each R (xs.take n) (ys.take n)]) (P:=Each R ((x::xs).take (n+1)) ((y::ys).take (n+1))) (fun g hg=>hg) h2
abbrev halfL {α:Type}(k:Pg α):Pg α:=⟨k.ks.take 7,k.vs.take 7,k.kids.take 8⟩
abbrev halfR {α:Type}(k:Pg α):Pg α:=⟨k.ks.drop 8,k.vs.drop 8,k.kids.drop 8⟩
abbrev splitP {α:Type}(pg:Pg (Pg α)) (i:Nat) (kid:Pg α) (m:KY) (v:Int):Pg (Pg α):=⟨insAt pg.ks i m,insAt pg.vs i v,insAt (pg.kids.set i (halfL kid)) (i+1) (halfR kid)⟩
theorem split_spec {α:Type}(R:Option Addr→α→HP) (p:Option Addr) (pg:Pg (Pg α)) (i:Nat) (kid:Pg α) (m:KY) (v:Int) (hk:pg.kids[i]? = some kid) (h15:kid.ks.length=15) (hv15:kid.vs.length=15) (hks:kid.kids=[]∨kid.kids.length=16)
    (hm:kid.ks[7]? = some m) (hv:kid.vs[7]? = some v) (hpk:pg.ks.length≤100) (hpv:pg.vs.length=pg.ks.length) (hpd:pg.kids.length=pg.ks.length+1) :
    Ct Pr F_tree_page_split [.pointer p,.int .i64 (i:Int),.int .i64 8] (.tup []) [] [PageR (PageR R) p pg] emp (fun t Bs=>Bs=[PageR (PageR R) p (splitP pg i kid m v)]):=by
  refine spec0 c_tree_page_split fun B _=>?_
  unfold tree_page_split
  have hi:i<pg.kids.length:=(List.getElem?_eq_some_iff.1 hk).1
  refine xpage 0 fun b ks vs cs kp hp hkl hcs=>?_
  subst hp
  obtain ⟨q,hq⟩:∃ q,kp[i]? = some q:=⟨_,List.getElem?_eq_getElem (by omega)⟩
  refine xunf 4 (P1:=Each (PageR R) kp pg.kids) [PageR R q kid,Each (PageR R) (kp.eraseIdx i) (pg.kids.eraseIdx i)] (fun g hg=>each_pick hg hq hk) (app2 ?_)
  refine xpage 0 fun lb lks lvs lcs lkp hlp hlkl hlcs=>?_
  subst hlp
  refine xnil (xget (h:=?_))
  refine xidxn (E:=PE) (xs:=kp) (s:=cs) (h1:=by omega) (h:=fun q' hq'=>?_)
  refine xgetE (E:=PE) (xs:=kp) hq (h:=xdraw ?_)
  have e7:IntKind.i64.wrap ((8:Int) - 1)=((7:Nat):Int):=by decide
  rw [e7]
  refine xlen (E:=KE) (xs:=kid.ks) lks fun hkn hkc=>?_
  refine xlen (E:=I64) (xs:=kid.vs) lvs fun hvn hvc=>?_
  refine xjoin1 (fun(right:Option Addr) As'=>∃ rb s5 s6,right=some ⟨rb,0,none⟩∧As'=[Blk rb [(s5:Sl).v,(s6:Sl).v,.slice none 0 0],Ar KE s5 (kid.ks.drop 8),Ar I64 s6 (kid.vs.drop 8),Blk b [ks.v,vs.v,cs.v],Ar KE ks pg.ks,Ar I64 vs pg.vs,Ar PE cs kp,Each (PageR R) (kp.eraseIdx i) (pg.kids.eraseIdx i),
      Blk lb [lks.v,lvs.v,lcs.v],Ar KE lks kid.ks,Ar I64 lvs kid.vs,Ar PE lcs lkp,Each R lkp kid.kids]) (fun K1 hK1=>?_) ?_
  · refine xnil (xget (h:=?_))
    refine xslc (by omega) (by omega) (by omega) (by omega) ?_
    refine xnil (xget (h:=?_))
    refine xslc (by omega) (by omega) (by omega) (by omega) ?_
    rw [show (8:Int).toNat=8 from rfl,show ((lks.n:Int)).toNat=lks.n by omega,show ((lks.c:Int)).toNat=lks.c by omega,show ((lvs.n:Int)).toNat=lvs.n by omega,show ((lvs.c:Int)).toNat=lvs.c by omega]
    have tail:∀ (b5 b6:Nat),Ent B [Blk b5 [],Blk b6 [],Blk lb [lks.v,lvs.v,lcs.v],Ar KE lks kid.ks,Ar I64 lvs kid.vs,Ar PE lcs lkp,Each R lkp kid.kids,Each (PageR R) (kp.eraseIdx i) (pg.kids.eraseIdx i),Blk b [ks.v,vs.v,cs.v],Ar KE ks pg.ks,Ar I64 vs pg.vs,Ar PE cs kp]
        (XApp Pr T_L_api_Key T_L_api_Key T_L_api_Key (.slice ((some ⟨b6,0,none⟩)) 0 0) ((lks.cut 8 lks.n lks.c 2).v) fun s9=>XChk (⟨lb,1,none⟩) (lvs.v)<|XApp Pr T_L_int T_L_int T_L_int (.slice ((some ⟨b5,0,none⟩)) 0 0) ((lvs.cut 8 lvs.n lvs.c 1).v) fun s10=>XNew [s9.v,s10.v,.slice none 0 0] T_tree_page fun b7=>K1 (some ⟨b7,0,none⟩)):=by
      intro b5 b6
      refine xfold1 1 (Q:=Ar KE ⟨some ⟨b6,0,none⟩,0,0⟩ []) (fun g hg=>⟨[],blk_ar [] 0 rfl rfl hg⟩) ?_
      refine xfold1 1 (Q:=Ar I64 ⟨some ⟨b5,0,none⟩,0,0⟩ []) (fun g hg=>⟨[],blk_ar [] 0 rfl rfl hg⟩) ?_
      refine xapp (E:=KE) (s:=⟨some ⟨b6,0,none⟩,0,0⟩) (r:=rdA_cut (E:=KE) (s:=lks) (xs:=kid.ks) 8 (by omega)) (hb:=by simp;omega) (h:=fun s9=>xchk (h:=?_))
      refine xapp (E:=I64) (s:=⟨some ⟨b5,0,none⟩,0,0⟩) (r:=rdA_cut (E:=I64) (s:=lvs) (xs:=kid.vs) 8 (by omega)) (hb:=by simp;omega) (h:=fun s10=>xnew fun b7=>?_)
      rw [List.nil_append,List.nil_append]
      exact xuse [Blk b7 [s9.v,s10.v,.slice none 0 0],Ar KE s9 (kid.ks.drop 8),Ar I64 s10 (kid.vs.drop 8),Blk b [ks.v,vs.v,cs.v],Ar KE ks pg.ks,Ar I64 vs pg.vs,Ar PE cs kp,Each (PageR R) (kp.eraseIdx i) (pg.kids.eraseIdx i),
        Blk lb [lks.v,lvs.v,lcs.v],Ar KE lks kid.ks,Ar I64 lvs kid.vs,Ar PE lcs lkp,Each R lkp kid.kids] (hK1 _ _ ⟨b7,s9,s10,rfl,rfl⟩)
    refine xand (xnew fun b6=>xand ?_ (xnew fun b5=>?_)) (xnew fun b5=>xnew fun b6=>?_)
    · refine xfold1 0 (Q:=Ar KE ⟨some ⟨b6,0,none⟩,0,0⟩ []) (fun g hg=>⟨[],blk_ar [] 0 rfl rfl hg⟩) ?_
      refine xapp (E:=KE) (s:=⟨some ⟨b6,0,none⟩,0,0⟩) (r:=rdA_cut (E:=KE) (s:=lks) (xs:=kid.ks) 8 (by omega)) (hb:=by simp;omega) (h:=fun s9=>xchk (h:=?_))
      refine xnew fun b5=>?_
      refine xfold1 0 (Q:=Ar I64 ⟨some ⟨b5,0,none⟩,0,0⟩ []) (fun g hg=>⟨[],blk_ar [] 0 rfl rfl hg⟩) ?_
      refine xapp (E:=I64) (s:=⟨some ⟨b5,0,none⟩,0,0⟩) (r:=rdA_cut (E:=I64) (s:=lvs) (xs:=kid.vs) 8 (by omega)) (hb:=by simp;omega) (h:=fun s10=>xnew fun b7=>?_)
      rw [List.nil_append,List.nil_append]
      exact xuse [Blk b7 [s9.v,s10.v,.slice none 0 0],Ar KE s9 (kid.ks.drop 8),Ar I64 s10 (kid.vs.drop 8),Blk b [ks.v,vs.v,cs.v],Ar KE ks pg.ks,Ar I64 vs pg.vs,Ar PE cs kp,Each (PageR R) (kp.eraseIdx i) (pg.kids.eraseIdx i),
        Blk lb [lks.v,lvs.v,lcs.v],Ar KE lks kid.ks,Ar I64 lvs kid.vs,Ar PE lcs lkp,Each R lkp kid.kids] (hK1 _ _ ⟨b7,s9,s10,rfl,rfl⟩)
    · exact xuse' (tail b5 b6)
    · exact xuse' (tail b5 b6)
  · rintro right As2 ⟨rb,s5,s6,rfl,rfl⟩
    refine xnil (xget (h:=?_))
    have hp8:1≤kid.kids.length→kid.kids.length=16:=fun h=>by
      rcases hks with e | e
      · rw [e] at h;simp at h
      · exact e
    refine xjoin0 (fun As'=>∃ s14 lcs',As'=[Blk rb [(s5:Sl).v,(s6:Sl).v,(s14:Sl).v],Ar PE s14 (lkp.drop 8),Each R (lkp.drop 8) (kid.kids.drop 8),Ar KE s5 (kid.ks.drop 8),Ar I64 s6 (kid.vs.drop 8),
      Blk lb [lks.v,lvs.v,(lcs':Sl).v],Ar PE lcs' (lkp.take 8),Each R (lkp.take 8) (kid.kids.take 8),Ar KE lks kid.ks,Ar I64 lvs kid.vs,Blk b [ks.v,vs.v,cs.v],Ar KE ks pg.ks,Ar I64 vs pg.vs,Ar PE cs kp,Each (PageR R) (kp.eraseIdx i) (pg.kids.eraseIdx i)]) (fun K1 hK1=>?_) ?_
    · refine xif_dec (fun h=>?_) (fun h=>?_)
      · have h16:=hp8 (by omega)
        refine xlen (E:=PE) (xs:=lkp) lcs fun hln hlc=>?_
        refine xnew fun b8=>?_
        refine xnil (xget (h:=?_))
        refine xslc (by omega) (by omega) (by omega) (by omega) ?_
        rw [show (8:Int).toNat=8 from rfl,show ((lcs.n:Int)).toNat=lcs.n by omega,show ((lcs.c:Int)).toNat=lcs.c by omega]
        refine xfold1 0 (Q:=Ar PE ⟨some ⟨b8,0,none⟩,0,0⟩ []) (fun g hg=>⟨[],blk_ar [] 0 rfl rfl hg⟩) ?_
        refine xapp (E:=PE) (s:=⟨some ⟨b8,0,none⟩,0,0⟩) (r:=rdA_cut (E:=PE) (s:=lcs) (xs:=lkp) 8 (by omega)) (hb:=by simp;omega) (h:=fun s14=>?_)
        rw [List.nil_append]
        refine xnil (xset (h:=xnil (xget (h:=?_))))
        refine xclip (E:=PE) (xs:=lkp) (s:=lcs) (r:=8) rfl (by omega) (by omega) ?_
        refine xnil (xset (h:=?_))
        refine xunf 13 (P1:=Each R lkp kid.kids) [Each R (lkp.take 8) (kid.kids.take 8),Each R (lkp.drop 8) (kid.kids.drop 8)] (fun g hg=>each_part 8 hg) (app2 ?_)
        exact xuse' (hK1 _ ⟨s14,⟨lcs.p,8,8⟩,rfl⟩)
      · have e0:kid.kids=[]:=List.eq_nil_of_length_eq_zero (by omega)
        have e1:lkp=[]:=List.eq_nil_of_length_eq_zero (by omega)
        refine xnone PE ?_
        have:=hK1 _ ⟨⟨none,0,0⟩,lcs,rfl⟩
        rw [e0,e1] at this ⊢
        simp only [List.drop_nil,List.take_nil] at this ⊢
        rw [show (⟨none,0,0⟩:Sl).v=.slice none 0 0 from rfl] at this
        refine xadd (A:=Each R [] []) trivial ?_
        exact xuse' this
    · rintro As2 ⟨s14,lcs',rfl⟩
      refine xdraw (xnil (xget (h:=?_)))
      refine xidxn (E:=KE) (xs:=kid.ks) (s:=lks) (h1:=by omega) (h:=fun y hy=>?_)
      obtain rfl:y=m:=by rw [hm] at hy;exact (Option.some.inj hy).symm
      refine xgetE (E:=KE) (xs:=kid.ks) hy (h:=?_)
      refine xgetEj (E:=KE) (xs:=kid.ks) hy (h:=xnil (xget (h:=?_)))
      refine xidxn (E:=I64) (xs:=kid.vs) (s:=lvs) (h1:=by omega) (h:=fun u hu=>?_)
      obtain rfl:u=v:=by rw [hv] at hu;exact (Option.some.inj hu).symm
      refine xgetE (E:=I64) (xs:=kid.vs) hu (h:=?_)
      refine xnew fun b9=>xset (h:=xset (h:=?_))
      refine xchkE (E:=I64) (xs:=kid.vs) hu (h:=xchk (h:=xdraw (xnil (xget (h:=?_)))))
      refine xclip (E:=KE) (xs:=kid.ks) (s:=lks) (r:=7) rfl (by omega) (by omega) ?_
      refine xnil (xget (h:=?_))
      refine xclip (E:=I64) (xs:=kid.vs) (s:=lvs) (r:=7) rfl (by omega) (by omega) ?_
      refine xnil (xset (h:=xnil (xset (h:=xdraw (xnil (xget (h:=xget (h:=xget (h:=xnil (xget (h:=xnil (xget (h:=?_)))))))))))))
      refine xcl (putK_spec ks pg.ks i y (by omega) (by omega)) rdb ?_
      rintro ⟨s26,_⟩ _ rfl
      refine app1 (ca1 (xchk (h:=xchk (h:=?_))))
      refine xcl (putI_spec vs pg.vs i u (by omega) (by omega)) rdb ?_
      rintro ⟨s27,_⟩ _ rfl
      refine app1 (ca1 (xchk (h:=?_)))
      rw [wrap_succ i (by omega)]
      refine xcl (putP_spec cs kp (i+1) (some ⟨rb,0,none⟩) (by omega) (by omega)) rdb ?_
      rintro ⟨s28,_⟩ _ rfl
      refine app1 (ca1 (xnil (xset (h:=xnil (xset (h:=xnil (xset (h:=?_))))))))
      refine xpage_back rb s5 s6 s14 (lkp.drop 8) (pg:=halfR kid) (R:=R) ?_
      refine xpage_back lb ⟨lks.p,7,7⟩ ⟨lvs.p,7,7⟩ lcs' (lkp.take 8) (pg:=halfL kid) (R:=R) ?_
      have hset:kp.set i (some ⟨lb,0,none⟩)=kp:=by
        apply List.ext_getElem?
        intro j
        by_cases e:i=j
        · subst e;rw [List.getElem?_set_self (by omega),hq]
        · rw [List.getElem?_set_ne e]
      refine xfold [PageR R (some ⟨lb,0,none⟩) (halfL kid),Each (PageR R) (kp.eraseIdx i) (pg.kids.eraseIdx i)] (Each (PageR R) kp (pg.kids.set i (halfL kid))) (fun g hg=>by
        have:=each_put (by omega) hi hg
        rwa [hset] at this) ?_
      refine xfold [PageR R (some ⟨rb,0,none⟩) (halfR kid),Each (PageR R) kp (pg.kids.set i (halfL kid))] (Each (PageR R) (insAt kp (i+1) (some ⟨rb,0,none⟩)) (splitP pg i kid y u).kids) (fun g hg=>each_insert (by omega) hg) ?_
      refine xpage_back b s26 s27 s28 (insAt kp (i+1) (some ⟨rb,0,none⟩)) (pg:=splitP pg i kid y u) (R:=PageR R) ?_
      exact xkeep (l:=[_]) (xret rfl)
end Go.Cx
namespace Go.Cx
open Go Go.Cf
set_option linter.unusedVariables false
set_option maxRecDepth 100000
variable {B:Base}{As F:List HP}
def rootK:(n:Nat)→PT n→List KY
  | 0,(p:Pg Empty)=>p.ks
  | _+1,(p:Pg (PT _))=>p.ks
def fullK:(n:Nat)→PT n→KY→Bool
  | 0,_,_=>false
  | n+1,(p:Pg (PT n)),k=>match p.kids[plK p.ks k]? with
    | some kid=>(rootK n kid).length == 15
    | none=>false
theorem good_len:∀ {n:Nat}{pg:PT n},goodT n pg→(rootK n pg).length≤15
  | 0,pg,h=>h.1
  | n+1,pg,h=>h.1
theorem splitO_spec:∀ (n:Nat) (p:Option Addr) (pg:Pg (PT n)) (i:Nat) (kid:PT n),goodT (n+1) pg→pg.ks.length<15→pg.kids[i]? = some kid→(rootK n kid).length=15 →
    Ct Pr F_tree_page_split [.pointer p,.int .i64 (i:Int),.int .i64 8] (.tup []) [] [PageO (n+1) p pg] emp
      (fun t Bs=>∃ pg':Pg (PT n),Bs=[PageO (n+1) p pg']∧goodT (n+1) pg'∧keysT (n+1) pg'=keysT (n+1) pg∧∃ (m:KY) (a b:PT n),pg'.ks=insAt pg.ks i m∧pg'.kids=insAt (pg.kids.set i a) (i+1) b∧(rootK n a).length=7∧(rootK n b).length=7):=by
  intro n p pg i kid hg hpl hk hf
  obtain ⟨h1,h2,h3,h4⟩:pg.ks.length≤15∧pg.vs.length=pg.ks.length∧pg.kids.length=pg.ks.length+1∧∀ k∈pg.kids,goodT n k:=hg
  have hi:=(List.getElem?_eq_some_iff.1 hk).1
  have hgk:goodT n kid:=h4 kid (List.mem_of_getElem? hk)
  -- what the split page is, as a law
  have law:∀ (m:KY) (v:Int) (a b:PT n),goodT n a→goodT n b→keysT n kid=keysT n a++m::keysT n b→(rootK n a).length=7→(rootK n b).length=7 →
      ∀ pg':Pg (PT n),pg'=⟨insAt pg.ks i m,insAt pg.vs i v,insAt (pg.kids.set i a) (i+1) b⟩→goodT (n+1) pg'∧keysT (n+1) pg'=keysT (n+1) pg∧∃ (m:KY) (a b:PT n),pg'.ks=insAt pg.ks i m∧pg'.kids=insAt (pg.kids.set i a) (i+1) b∧(rootK n a).length=7∧(rootK n b).length=7:=by
    rintro m v a b ga gb hab la lb _ rfl
    refine ⟨⟨?_,?_,?_,?_⟩,?_,m,a,b,rfl,rfl,la,lb⟩
    · show (insAt pg.ks i m).length≤15;rw [insAt_len];omega
    · show (insAt pg.vs i v).length=(insAt pg.ks i m).length;rw [insAt_len,insAt_len];omega
    · show (insAt (pg.kids.set i a) (i+1) b).length=(insAt pg.ks i m).length+1;rw [insAt_len,insAt_len,List.length_set];omega
    · intro k hk'
      have hk':k∈insAt (pg.kids.set i a) (i+1) b:=hk'
      unfold insAt at hk'
      rcases List.mem_append.1 hk' with h | h
      · rcases List.mem_or_eq_of_mem_set (List.mem_of_mem_take h) with h | h
        · exact h4 k h
        · exact h ▸ ga
      · rcases List.mem_cons.1 h with h | h
        · exact h ▸ gb
        · rcases List.mem_or_eq_of_mem_set (List.mem_of_mem_drop h) with h | h
          · exact h4 k h
          · exact h ▸ ga
    · show mix (insAt pg.ks i m) ((insAt (pg.kids.set i a) (i+1) b).map (keysT n))=mix pg.ks (pg.kids.map (keysT n))
      have e:(insAt (pg.kids.set i a) (i+1) b).map (keysT n)=insAt ((pg.kids.map (keysT n)).set i (keysT n a)) (i+1) (keysT n b):=by
        unfold insAt
        rw [List.map_append,List.map_cons,List.map_take,List.map_drop,List.map_set]
      rw [e,mix_split i m _ _ (by simp;omega) (by simp;omega),mix_at i (x:=keysT n kid) (by simp;omega) (by rw [List.getElem?_map,hk];rfl),hab]
  cases n with
  | zero=>
    have hf':(kid:Pg Empty).ks.length=15:=hf
    have hvl:(kid:Pg Empty).vs.length=(kid:Pg Empty).ks.length:=hgk.2
    have hm:=List.getElem?_eq_getElem (l:=(kid:Pg Empty).ks) (i:=7) (by omega)
    have hv:=List.getElem?_eq_getElem (l:=(kid:Pg Empty).vs) (i:=7) (by omega)
    have hc:=split_spec (α:=Empty) ER p pg i kid _ _ hk hf' (by omega) (.inl (by cases h:(kid:Pg Empty).kids with | nil=>rfl | cons e _=>exact e.elim)) hm hv (by omega) h2 h3
    intro w g hs hmem hr
    refine (hc w g hs hmem hr).mono ?_
    rintro e w' ⟨t,Bs,he,rfl,hx⟩
    refine ⟨t,_,he,⟨_,rfl,?_⟩,hx⟩
    refine law _ _ (halfL (kid:Pg Empty)) (halfR (kid:Pg Empty)) ⟨?_,?_⟩ ⟨?_,?_⟩ ?_ ?_ ?_ _ rfl
    · show ((kid:Pg Empty).ks.take 7).length≤15;simp;omega
    · show ((kid:Pg Empty).vs.take 7).length=((kid:Pg Empty).ks.take 7).length;simp;omega
    · show ((kid:Pg Empty).ks.drop 8).length≤15;simp;omega
    · show ((kid:Pg Empty).vs.drop 8).length=((kid:Pg Empty).ks.drop 8).length;simp;omega
    · show (kid:Pg Empty).ks=(kid:Pg Empty).ks.take 7++(kid:Pg Empty).ks[7]::(kid:Pg Empty).ks.drop 8
      rw [←List.drop_eq_getElem_cons,List.take_append_drop]
    · show ((kid:Pg Empty).ks.take 7).length=7;simp;omega
    · show ((kid:Pg Empty).ks.drop 8).length=7;simp;omega
  | succ n=>
    obtain ⟨g1,g2,g3,g4⟩:(kid:Pg (PT n)).ks.length≤15∧(kid:Pg (PT n)).vs.length=(kid:Pg (PT n)).ks.length∧(kid:Pg (PT n)).kids.length=(kid:Pg (PT n)).ks.length+1∧∀ k∈(kid:Pg (PT n)).kids,goodT n k:=hgk
    have hf':(kid:Pg (PT n)).ks.length=15:=hf
    have hm:=List.getElem?_eq_getElem (l:=(kid:Pg (PT n)).ks) (i:=7) (by omega)
    have hv:=List.getElem?_eq_getElem (l:=(kid:Pg (PT n)).vs) (i:=7) (by omega)
    have hc:=split_spec (α:=PT n) (PageO n) p pg i kid _ _ hk hf' (by omega) (.inr (by omega)) hm hv (by omega) h2 h3
    intro w g hs hmem hr
    refine (hc w g hs hmem hr).mono ?_
    rintro e w' ⟨t,Bs,he,rfl,hx⟩
    refine ⟨t,_,he,⟨_,rfl,?_⟩,hx⟩
    refine law _ _ (halfL (kid:Pg (PT n))) (halfR (kid:Pg (PT n))) ⟨?_,?_,?_,?_⟩ ⟨?_,?_,?_,?_⟩ ?_ ?_ ?_ _ rfl
    · show ((kid:Pg (PT n)).ks.take 7).length≤15;simp;omega
    · show ((kid:Pg (PT n)).vs.take 7).length=((kid:Pg (PT n)).ks.take 7).length;simp;omega
    · show ((kid:Pg (PT n)).kids.take 8).length=((kid:Pg (PT n)).ks.take 7).length+1;simp;omega
    · exact fun k hk=>g4 k (List.mem_of_mem_take hk)
    · show ((kid:Pg (PT n)).ks.drop 8).length≤15;simp;omega
    · show ((kid:Pg (PT n)).vs.drop 8).length=((kid:Pg (PT n)).ks.drop 8).length;simp;omega
    · show ((kid:Pg (PT n)).kids.drop 8).length=((kid:Pg (PT n)).ks.drop 8).length+1;simp;omega
    · exact fun k hk=>g4 k (List.mem_of_mem_drop hk)
    · show mix (kid:Pg (PT n)).ks ((kid:Pg (PT n)).kids.map (keysT n))=mix ((kid:Pg (PT n)).ks.take 7) (((kid:Pg (PT n)).kids.take 8).map (keysT n))++(kid:Pg (PT n)).ks[7]::mix ((kid:Pg (PT n)).ks.drop 8) (((kid:Pg (PT n)).kids.drop 8).map (keysT n))
      rw [mix_part 7 (by simp;omega) hm,List.map_take,List.map_drop]
    · show ((kid:Pg (PT n)).ks.take 7).length=7;simp;omega
    · show ((kid:Pg (PT n)).ks.drop 8).length=7;simp;omega
end Go.Cx
namespace Go.Cx
open Go Go.Cf
set_option linter.unusedVariables false
set_option maxRecDepth 100000
variable {B:Base}{As F:List HP}
def RootO (rp:Option Addr) (L:List KY):HP:=fun h=>(rp=none∧L=[])∨∃ (N:Nat) (pg:PT N),goodT N pg∧keysT N pg=L∧PageO N rp pg h
def TreeObj (q:Option Addr) (L:List KY):HP:=fun h=>SrtK L∧∃ b rp,q=some ⟨b,0,none⟩∧star [Blk b [.int .i64 8,.pointer rp,.int .i64 (L.length:Int)],RootO rp L] h
theorem xtree (i:Nat) {q:Option Addr}{L:List KY}{F:List HP} [p:Pick i As (TreeObj q L) F] {φ:WP}
    (k:SrtK L→∀ b rp,q=some ⟨b,0,none⟩→Ent B (Blk b [.int .i64 8,.pointer rp,.int .i64 (L.length:Int)]::RootO rp L::F) φ):Ent B As φ:=by
  refine Ent.perm p.perm ?_
  rintro w ⟨g,⟨a,c,⟨hs,b,rp,hq,pa⟩,pc,d,sa,sc⟩,hm,hu⟩
  exact k hs b rp hq w ⟨g,(star_append [_,_] F).2 ⟨a,c,pa,pc,d,sa,sc⟩,hm,hu⟩
theorem xtree_back (b:Nat) (rp:Option Addr) (L:List KY) (hs:SrtK L) {G:List HP} [p:Split [Blk b [.int .i64 8,.pointer rp,.int .i64 (L.length:Int)],RootO rp L] As G] {φ:WP}
    (k:Ent B (TreeObj (some ⟨b,0,none⟩) L::G) φ):Ent B As φ:=
  xfold [Blk b [.int .i64 8,.pointer rp,.int .i64 (L.length:Int)],RootO rp L] (TreeObj (some ⟨b,0,none⟩) L) (fun g hg=>⟨hs,b,rp,rfl,hg⟩) k
theorem New_tree:Ct Pr F_tree_New [.int .i64 8] (.tup [none,none]) [.ptr,.int .i64] [] emp (fun t Bs=>t.2.1=0∧Bs=[TreeObj t.1 []]):=by
  refine spec2 c_tree_New fun B _=>?_
  unfold tree_New
  refine xiff (by decide) (xnew fun b=>?_)
  refine xadd (A:=RootO none []) (.inl ⟨rfl,rfl⟩) ?_
  exact xtree_back b none [] List.Pairwise.nil (xret ⟨rfl,rfl⟩)
theorem xkeys (i:Nat):∀ {n:Nat}{q:Option Addr}{pg:PT n}{As F:List HP} [p:Pick i As (PageO n q pg) F] {K:Sl→WP},(∀ s:Sl,s.n=(rootK n pg).length→Ent B (PageO n q pg::F) (K s))→Ent B As (XNil q fun a=>XGet .slice a fun s=>K s)
  | 0,q,(pg:Pg Empty),As,F,p,K,h=>by
    have p':Pick i As (PageR ER q pg) F:=p
    refine xpage i fun b ks vs cs kp hq _ _=>?_
    subst hq
    refine xnil (xget (h:=xlen (E:=KE) (xs:=pg.ks) ks fun hn _=>?_))
    refine xpage_back b ks vs cs kp (pg:=pg) (R:=ER) ?_
    exact h ks hn.symm
  | n+1,q,(pg:Pg (PT n)),As,F,p,K,h=>by
    have p':Pick i As (PageR (PageO n) q pg) F:=p
    refine xpage i fun b ks vs cs kp hq _ _=>?_
    subst hq
    refine xnil (xget (h:=xlen (E:=KE) (xs:=pg.ks) ks fun hn _=>?_))
    refine xpage_back b ks vs cs kp (pg:=pg) (R:=PageO n) ?_
    exact h ks hn.symm
theorem insAt_lt {α:Type}{l:List α}{i j:Nat}{x:α}(h:j<i) (hi:i≤l.length):(insAt l i x)[j]? = l[j]?:=by
  unfold insAt;rw [List.getElem?_append_left (by simp;omega),List.getElem?_take_of_lt h]
theorem insAt_eq {α:Type}{l:List α}{i:Nat}{x:α}(hi:i≤l.length):(insAt l i x)[i]? = some x:=by
  unfold insAt;rw [List.getElem?_append_right (by simp;omega)];simp [Nat.min_eq_left hi]
theorem insAt_gt {α:Type}{l:List α}{i j:Nat}{x:α}(h:i≤j) (hi:i≤l.length):(insAt l i x)[j+1]? = l[j]?:=by
  unfold insAt;rw [List.getElem?_append_right (by simp;omega),List.length_take,Nat.min_eq_left hi,show j+1 - i=(j - i)+1 by omega,List.getElem?_cons_succ,List.getElem?_drop,show i+(j - i)=j by omega]
theorem plK_ins_ge {ks:List KY}{k m:KY}:plK ks k≤plK (insAt ks (plK ks k) m) k:=by
  have hi:=plK_le ks k
  generalize hp:plK (insAt ks (plK ks k) m) k=p
  rcases Nat.lt_or_ge p (plK ks k) with h1 | h1
  · exfalso
    have hlt:p<ks.length:=by omega
    have h2:=plK_ge (ks:=insAt ks (plK ks k) m) (k:=k) (y:=ks[p]) (by rw [hp,insAt_lt h1 hi,List.getElem?_eq_getElem hlt])
    rw [plK_lt p _ h1 (List.getElem?_eq_getElem hlt)] at h2;cases h2
  · exact h1
theorem plK_ins2 {ks:List KY}{k m:KY}:plK (insAt ks (plK ks k) m) k=plK ks k∨plK (insAt ks (plK ks k) m) k=plK ks k+1:=by
  have hi:=plK_le ks k
  have ge:=plK_ins_ge (ks:=ks) (k:=k) (m:=m)
  have hy:=insAt_eq (x:=m) hi
  by_cases h:ltK m k=true
  · right
    have g1:=plK_step ge hy h
    rcases Nat.lt_or_ge (plK ks k) ks.length with hl | hl
    · have hz:=insAt_gt (x:=m) (Nat.le_refl _) hi
      rw [List.getElem?_eq_getElem hl] at hz
      exact plK_stop g1 hz (plK_ge (List.getElem?_eq_getElem hl))
    · have:=plK_le (insAt ks (plK ks k) m) k
      rw [insAt_len] at this
      omega
  · left
    exact plK_stop ge hy (by simpa using h)
theorem full_split {n:Nat}{pg pg':Pg (PT n)}{k m:KY}{a b:PT n}(hl:plK pg.ks k<pg.kids.length) (h1:pg'.ks=insAt pg.ks (plK pg.ks k) m) (h2:pg'.kids=insAt (pg.kids.set (plK pg.ks k) a) (plK pg.ks k+1) b) (ha:(rootK n a).length=7) (hb:(rootK n b).length=7):fullK (n+1) pg' k=false:=by
  have e0:pg'.kids[plK pg.ks k]? = some a:=by
    rw [h2,insAt_lt (by omega) (by simp;omega),List.getElem?_set_self hl]
  have e1:pg'.kids[plK pg.ks k+1]? = some b:=by
    rw [h2,insAt_eq (by simp;omega)]
  show (match pg'.kids[plK pg'.ks k]? with
    | some kid=>(rootK n kid).length == 15
    | none=>false)=false
  rcases plK_ins2 (ks:=pg.ks) (k:=k) (m:=m) with e | e
  · rw [h1,e,e0];simp [ha]
  · rw [h1,e,e1];simp [hb]
def room (n:Nat) (pg:PT n) (k:KY):Prop:=(rootK n pg).length<15∨(n≠0∧fullK n pg k=false)
def mes (n:Nat) (pg:PT n) (k:KY):Nat:=2*n+(if fullK n pg k=true then 1 else 0)
def Wand (n:Nat) (p rp:Option Addr) (W:HP) (pre suf:List KY):Prop:=∀ (pg':PT n) g,goodT n pg'→star [PageO n p pg',W] g→∃ (N:Nat) (r:PT N),goodT N r∧keysT N r=pre++(keysT n pg'++suf)∧PageO N rp r g
def PutI (b tb:Nat) (k:KY) (rp:Option Addr) (L:List KY) (m:Nat) (p:Option Addr) (As':List HP):Prop:=∃ (n:Nat) (pg:PT n) (W:HP) (pre suf:List KY),goodT n pg∧L=pre++(keysT n pg++suf)∧(∀ y∈pre,ltK y k=true)∧(∀ y∈suf,ltK k y=true)∧room n pg k∧m=mes n pg k∧Wand n p rp W pre suf ∧
  As'=[Blk b [.int .i64 k.1,.int .i64 k.2],Blk tb [.int .i64 8,.pointer rp,.int .i64 (L.length:Int)],PageO n p pg,W]
theorem PageR.mono {α:Type}{R:Option Addr→α→HP}{p:Option Addr}{pg:Pg α}{g h:Frag}(a:PageR R p pg g) (s:Sub g h):PageR R p pg h:=by
  obtain ⟨b,ks,vs,cs,kp,hp,ha⟩:=a
  exact ⟨b,ks,vs,cs,kp,hp,star_mono _ ha s⟩
theorem PageO.mono:∀ {n:Nat}{p:Option Addr}{pg:PT n}{g h:Frag},PageO n p pg g→Sub g h→PageO n p pg h
  | 0,p,pg,g,h,a,s=>PageR.mono a s
  | n+1,p,pg,g,h,a,s=>PageR.mono a s
theorem PageO.some:∀ {n:Nat}{p:Option Addr}{pg:PT n}{g:Frag},PageO n p pg g→∃ b,p=some ⟨b,0,none⟩
  | 0,p,pg,g,⟨b,_,_,_,_,h,_⟩=>⟨b,h⟩
  | n+1,p,pg,g,⟨b,_,_,_,_,h,_⟩=>⟨b,h⟩
theorem set_self {α:Type}{l:List α}{i:Nat}{x:α}(h:l[i]? = some x):l.set i x=l:=by
  apply List.ext_getElem?
  intro j
  by_cases e:i=j
  · subst e;rw [List.getElem?_set_self (List.getElem?_eq_some_iff.1 h).1,h]
  · rw [List.getElem?_set_ne e]
theorem found_tail {α:Type}{R:Option Addr→α→HP}(pg:Pg α) (i:Nat) (hi:i<pg.vs.length) (v:Int) (pb:Nat) (ks vs cs:Sl) (kp:List (Option Addr)) {K:WP}(h:Ent B (PageR R (some ⟨pb,0,none⟩) ⟨pg.ks,pg.vs.set i v,pg.kids⟩::F) K) :
    Ent B (Blk pb [ks.v,vs.v,cs.v]::Ar KE ks pg.ks::Ar I64 vs pg.vs::Ar PE cs kp::Each R kp pg.kids::F) (XNil (some ⟨pb,0,none⟩) fun a10=>XGet .slice (a10.add 1) fun s1=>XIdx s1.p s1.n (i:Int) 1 fun a11=>XSet a11 (.int .i64 v)<|K):=by
  refine xnil (xget (h:=?_))
  refine xidxn (E:=I64) (xs:=pg.vs) (s:=vs) (h1:=hi) (h:=fun y hy=>?_)
  refine xsetE (E:=I64) (xs:=pg.vs) v hy (hv:=rfl) (h:=?_)
  exact xpage_back pb ks vs cs kp (pg:=⟨pg.ks,pg.vs.set i v,pg.kids⟩) (R:=R) h
theorem srt_part {n:Nat}{pg:PT n}{L pre suf:List KY}(hs:SrtK L) (h:L=pre++(keysT n pg++suf)):SrtK (keysT n pg):=by
  rw [h] at hs
  exact (List.pairwise_append.1 (List.pairwise_append.1 hs).2.1).1
theorem put_end {n:Nat}{p rp:Option Addr}{W:HP}{pre suf L:List KY}{tb:Nat}{k:KY}(hs:SrtK L) (pg':PT n) (hg':goodT n pg') (hW:Wand n p rp W pre suf) (hk:pre++(keysT n pg'++suf)=insK k L) {c:Int}(hc:c=((insK k L).length:Int)) {G:List HP}{x:Bool}
    [q:Split [PageO n p pg',W,Blk tb [.int .i64 8,.pointer rp,.int .i64 c]] As G]:Ent B As (Ret B (ss:=[.bool]) (fun t Bs=>Bs=[TreeObj (some ⟨tb,0,none⟩) (insK k L)]) (x,())):=by
  subst hc
  refine xuse [PageO n p pg',W,Blk tb [.int .i64 8,.pointer rp,.int .i64 ((insK k L).length:Int)]] ?_
  refine xfold [PageO n p pg',W] (RootO rp (insK k L)) (fun g hg=>?_) ?_
  · obtain ⟨N,r,h1,h2,h3⟩:=hW pg' g hg' hg
    exact .inr ⟨N,r,h1,h2.trans hk,h3⟩
  · exact xtree_back tb rp (insK k L) (ins_srt hs) (xret rfl)
theorem Put_tree (q:Option Addr) (L:List KY) (k:KY) (v:Int) (hL:L.length≤4000000000000000):Ct Pr F_tree_Tree_Put [.pointer q,.agg #[.int .i64 k.1,.int .i64 k.2],.int .i64 v] .one [.bool] [TreeObj q L] emp (fun t Bs=>Bs=[TreeObj q (insK k L)]):=by
  refine spec1 c_tree_Tree_Put fun B _=>?_
  unfold tree_Tree_Put
  refine xnew fun b=>xtree 1 fun hs tb rp hq=>?_
  subst hq
  refine xnil (xget (h:=xnil (xget (h:=?_))))
  refine xjoin0 (fun As'=>∃ (rp:Option Addr) (N:Nat) (pg:PT N),goodT N pg∧keysT N pg=L∧As'=[Blk b [.int .i64 k.1,.int .i64 k.2],Blk tb [.int .i64 8,.pointer rp,.int .i64 (L.length:Int)],PageO N rp pg]) (fun K1 hK1=>?_) ?_
  · refine xopen 1 (fun Bs=>(rp=none∧L=[]∧Bs=[])∨∃ (N:Nat) (pg:PT N),goodT N pg∧keysT N pg=L∧rp≠none∧Bs=[PageO N rp pg]) (fun g hg=>?_) ?_
    · rcases hg with ⟨h1,h2⟩ | ⟨N,pg,h1,h2,h3⟩
      · exact ⟨[],.inl ⟨h1,h2,rfl⟩,trivial⟩
      · obtain ⟨rb,hrb⟩:=h3.some
        exact ⟨_,.inr ⟨N,pg,h1,h2,by rw [hrb];simp,rfl⟩,star_in h3⟩
    · rintro Bs (⟨rfl,rfl,rfl⟩ | ⟨N,pg,h1,h2,h3,rfl⟩)
      · refine app0 (xift rfl (xnew fun b1=>xnil (xset (h:=?_))))
        refine xfold1 0 (Q:=Blk b1 [(⟨none,0,0⟩:Sl).v,(⟨none,0,0⟩:Sl).v,(⟨none,0,0⟩:Sl).v]) (fun g hg=>hg) ?_
        refine xnone KE (xnone I64 (xnone PE ?_))
        refine xadd (A:=Each ER [] []) trivial ?_
        refine xpage_back b1 ⟨none,0,0⟩ ⟨none,0,0⟩ ⟨none,0,0⟩ [] (pg:=(⟨[],[],[]⟩:Pg Empty)) (R:=ER) ?_
        exact xuse [Blk b [.int .i64 k.1,.int .i64 k.2],Blk tb [.int .i64 8,.pointer (some ⟨b1,0,none⟩),.int .i64 0],PageR ER (some ⟨b1,0,none⟩) (⟨[],[],[]⟩:Pg Empty)] (hK1 _ ⟨some ⟨b1,0,none⟩,0,(⟨[],[],[]⟩:Pg Empty),⟨by simp,rfl⟩,rfl,rfl⟩)
      · refine app1 (xiff (by cases rp with | none=>exact absurd rfl h3 | some a=>rfl) ?_)
        exact xuse [Blk b [.int .i64 k.1,.int .i64 k.2],Blk tb [.int .i64 8,.pointer rp,.int .i64 (L.length:Int)],PageO N rp pg] (hK1 _ ⟨rp,N,pg,h1,h2,rfl⟩)
  rintro As1 ⟨rp,N,pg,hg,hk,rfl⟩
  refine xnil (xget (h:=xkeys 2 fun s hsn=>?_))
  have e15:IntKind.i64.wrap ((IntKind.i64.wrap (2*8)) - 1)=15:=by decide
  rw [e15]
  have hlen:=good_len hg
  refine xjoin0 (fun As'=>∃ (rp:Option Addr) (N:Nat) (pg:PT N),goodT N pg∧keysT N pg=L∧(rootK N pg).length<15∧As'=[Blk b [.int .i64 k.1,.int .i64 k.2],Blk tb [.int .i64 8,.pointer rp,.int .i64 (L.length:Int)],PageO N rp pg]) (fun K1 hK1=>?_) ?_
  · refine xif (fun h=>?_) (fun h=>?_)
    · have h15:(rootK N pg).length=15:=by have:=eq_of_beq h;omega
      refine xnil (xget (h:=xnew fun b2=>xnew fun b3=>xnil (xset (h:=xdraw (xnil (xget (h:=xnil (xget (h:=?_)))))))))
      refine xfold1 0 (Q:=Blk b3 [(⟨none,0,0⟩:Sl).v,(⟨none,0,0⟩:Sl).v,(⟨some ⟨b2,0,none⟩,1,1⟩:Sl).v]) (fun g hg=>hg) ?_
      refine xfold1 1 (Q:=Ar PE ⟨some ⟨b2,0,none⟩,1,1⟩ [rp]) (fun g hg=>⟨[],blk_ar [rp] 1 rfl rfl hg⟩) ?_
      refine xfold [PageO N rp pg] (Each (PageO N) [rp] [pg]) (fun g hg=>by
        obtain ⟨a,c,pa,pc,d,sa,sc⟩:=hg
        exact ⟨a,c,pa,star_in trivial,d,sa,sc⟩) ?_
      refine xnone KE (xnone I64 ?_)
      refine xpage_back b3 ⟨none,0,0⟩ ⟨none,0,0⟩ ⟨some ⟨b2,0,none⟩,1,1⟩ [rp] (pg:=(⟨[],[],[pg]⟩:Pg (PT N))) (R:=PageO N) ?_
      have hc:=splitO_spec N (some ⟨b3,0,none⟩) (⟨[],[],[pg]⟩:Pg (PT N)) 0 pg ⟨by simp,rfl,rfl,fun x hx=>by
        obtain rfl:x=pg:=by simpa using hx
        exact hg⟩ (by simp) rfl h15
      refine xcl (pre:=[PageR (PageO N) (some ⟨b3,0,none⟩) (⟨[],[],[pg]⟩:Pg (PT N))]) hc rdb ?_
      rintro _ _ ⟨pg',rfl,g1,g2,m,a,c,g3,_⟩
      refine app1 (ca0 ?_)
      have hr:(rootK (N+1) pg').length<15:=by
        show pg'.ks.length<15
        rw [g3,insAt_len];simp
      have hk2:keysT (N+1) pg'=L:=by
        rw [g2]
        exact hk
      exact xuse [Blk b [.int .i64 k.1,.int .i64 k.2],Blk tb [.int .i64 8,.pointer (some ⟨b3,0,none⟩),.int .i64 (L.length:Int)],PageO (N+1) (some ⟨b3,0,none⟩) pg'] (hK1 _ ⟨some ⟨b3,0,none⟩,N+1,pg',g1,hk2,hr,rfl⟩)
    · have h15:(rootK N pg).length≠15:=fun e=>by
        have:((s.n:Int) == 15)=true:=by rw [hsn,e];rfl
        rw [this] at h;cases h
      exact xuse [Blk b [.int .i64 k.1,.int .i64 k.2],Blk tb [.int .i64 8,.pointer rp,.int .i64 (L.length:Int)],PageO N rp pg] (hK1 _ ⟨rp,N,pg,hg,hk,by omega,rfl⟩)
  clear hg hk hlen hsn s pg N rp
  rintro As1 ⟨rp,N,pg,hg,hk,hlt,rfl⟩
  refine xnil (xget (h:=?_))
  refine xadd (A:=fun _=>True) trivial (xback 0 ?_)
  refine xloop1 (fun m x As'=>PutI b tb k rp L m x As') (mes N pg k) ⟨N,pg,_,[],[],hg,by simp [hk],by simp,by simp,.inl hlt,rfl,?_,rfl⟩ ?_
  · rintro pg' g hg' ⟨a,c,pa,_,_,sa,_⟩
    exact ⟨N,pg',hg',by simp,pa.mono sa⟩
  clear hg hk hlt pg N
  rintro m p As' K ⟨n,pg,W,pre,suf,hg,hLe,hpre,hsuf,hroom,rfl,hW,rfl⟩ hK
  have hsn:=srt_part hs hLe
  refine xjoin (xget (h:=xget (h:=?_)))
  cases n with
  | zero=>
    change Pg Empty at pg
    have hg':pg.ks.length≤15∧pg.vs.length=pg.ks.length:=hg
    refine xfold1 2 (P1:=PageO 0 p pg) (Q:=PageR ER p pg) (fun g hg=>hg) ?_
    refine xpage 0 (R:=ER) (pg:=pg) fun pb ks vs cs kp hp hkl hcs=>?_
    subst hp
    refine xcl (place_raw pb ks vs.v cs.v pg.ks k (by omega)) rdb ?_
    rintro ⟨r,c,_⟩ _ ⟨hr,hc,rfl⟩
    simp only at hr hc;subst hr hc
    refine app2 (ca2 (xif (fun h=>?_) (fun h=>?_)))
    · have h':pg.ks[plK pg.ks k]? = some k:=of_decide_eq_true h
      have hi:=(List.getElem?_eq_some_iff.1 h').1
      have hmem:k∈L:=by rw [hLe];exact List.mem_append_right _ (List.mem_append_left _ (List.mem_of_getElem? h'))
      refine xuse' (found_tail (R:=ER) (F:=[Blk tb [.int .i64 8,.pointer rp,.int .i64 (L.length:Int)],W]) pg (plK pg.ks k) (by omega) v pb ks vs cs kp ?_)
      refine xfold1 0 (Q:=PageO 0 (some ⟨pb,0,none⟩) (⟨pg.ks,pg.vs.set (plK pg.ks k) v,pg.kids⟩:Pg Empty)) (fun g hg=>hg) ?_
      exact put_end (n:=0) (p:=some ⟨pb,0,none⟩) (rp:=rp) (tb:=tb) (c:=(L.length:Int)) hs (⟨pg.ks,pg.vs.set (plK pg.ks k) v,pg.kids⟩:Pg Empty) ⟨hg'.1,by simp [hg'.2]⟩ hW (by rw [ins_mem hmem];exact hLe.symm) (by rw [ins_mem hmem])
    · have h':pg.ks[plK pg.ks k]?≠some k:=of_decide_eq_false h
      have hpl:=plK_le pg.ks k
      have h15:pg.ks.length<15:=by
        rcases hroom with h | ⟨h,_⟩
        · exact h
        · exact absurd rfl h
      have hk0:(pg.kids).length=0:=by cases e:pg.kids with | nil=>rfl | cons x _=>exact x.elim
      refine xnil (xget (h:=xift (by rw [hcs,hk0];rfl) (xdraw (xnil (xget (h:=xget (h:=xget (h:=xnil (xget (h:=?_))))))))))
      refine xcl (putK_spec ks pg.ks (plK pg.ks k) k hpl (by omega)) rdb ?_
      rintro ⟨s5,_⟩ _ rfl
      refine app1 (ca1 (xchk (h:=?_)))
      refine xcl (putI_spec vs pg.vs (plK pg.ks k) v (by omega) (by omega)) rdb ?_
      rintro ⟨s6,_⟩ _ rfl
      refine app1 (ca1 (xnil (xset (h:=xnil (xset (h:=xnil (xget (h:=xnil (xset (h:=?_))))))))))
      refine xpage_back pb s5 s6 cs kp (pg:=(⟨insAt pg.ks (plK pg.ks k) k,insAt pg.vs (plK pg.ks k) v,pg.kids⟩:Pg Empty)) (R:=ER) ?_
      have hnk:k∉pg.ks:=fun hm=>by
        have:=leaf_ins (ks:=pg.ks) hsn h'
        have hl:(insAt pg.ks (plK pg.ks k) k).length=(insK k pg.ks).length:=congrArg List.length this
        rw [insAt_len,ins_mem hm] at hl;omega
      have hnot:k∉L:=fun hm=>by
        rw [hLe] at hm
        rcases List.mem_append.1 hm with hm | hm
        · have:=hpre k hm;rw [ltK_irr] at this;cases this
        · rcases List.mem_append.1 hm with hm | hm
          · exact hnk hm
          · have:=hsuf k hm;rw [ltK_irr] at this;cases this
      refine xfold1 0 (Q:=PageO 0 (some ⟨pb,0,none⟩) (⟨insAt pg.ks (plK pg.ks k) k,insAt pg.vs (plK pg.ks k) v,pg.kids⟩:Pg Empty)) (fun g hg=>hg) ?_
      refine put_end (n:=0) (p:=some ⟨pb,0,none⟩) (rp:=rp) (tb:=tb) (c:=IntKind.i64.wrap ((L.length:Int)+1)) hs (⟨insAt pg.ks (plK pg.ks k) k,insAt pg.vs (plK pg.ks k) v,pg.kids⟩:Pg Empty) ⟨?_,?_⟩ hW ?_ ?_
      · show (insAt pg.ks (plK pg.ks k) k).length≤15;rw [insAt_len];omega
      · show (insAt pg.vs (plK pg.ks k) v).length=(insAt pg.ks (plK pg.ks k) k).length;rw [insAt_len,insAt_len];omega
      · show pre++(insAt pg.ks (plK pg.ks k) k++suf)=_
        rw [leaf_ins (ks:=pg.ks) hsn h',hLe,ins_mid hpre hsuf];rfl
      · rw [ins_len hnot]
        exact wrap_succ _ (by omega)
  | succ n=>
    change Pg (PT n) at pg
    obtain ⟨g1,g2,g3,g4⟩:pg.ks.length≤15∧pg.vs.length=pg.ks.length∧pg.kids.length=pg.ks.length+1∧∀ k∈pg.kids,goodT n k:=hg
    refine xfold1 2 (P1:=PageO (n+1) p pg) (Q:=PageR (PageO n) p pg) (fun g hg=>hg) ?_
    refine xpage 0 (R:=PageO n) (pg:=pg) fun pb ks vs cs kp hp hkl hcs=>?_
    subst hp
    refine xcl (place_raw pb ks vs.v cs.v pg.ks k (by omega)) rdb ?_
    rintro ⟨r,c,_⟩ _ ⟨hr,hc,rfl⟩
    simp only at hr hc;subst hr hc
    have hpl:=plK_le pg.ks k
    have hml:(pg.kids.map (keysT n)).length=pg.ks.length+1:=by simpa using g3
    refine app2 (ca2 (xif (fun h=>?_) (fun h=>?_)))
    · have h':pg.ks[plK pg.ks k]? = some k:=of_decide_eq_true h
      have hi:=(List.getElem?_eq_some_iff.1 h').1
      have hmem:k∈L:=by rw [hLe];exact List.mem_append_right _ (List.mem_append_left _ (mix_mem hml h'))
      refine xuse' (found_tail (R:=PageO n) (F:=[Blk tb [.int .i64 8,.pointer rp,.int .i64 (L.length:Int)],W]) pg (plK pg.ks k) (by omega) v pb ks vs cs kp ?_)
      refine xfold1 0 (Q:=PageO (n+1) (some ⟨pb,0,none⟩) (⟨pg.ks,pg.vs.set (plK pg.ks k) v,pg.kids⟩:Pg (PT n))) (fun g hg=>hg) ?_
      exact put_end (n:=n+1) (p:=some ⟨pb,0,none⟩) (rp:=rp) (tb:=tb) (c:=(L.length:Int)) hs (⟨pg.ks,pg.vs.set (plK pg.ks k) v,pg.kids⟩:Pg (PT n)) ⟨g1,by simp [g2],g3,g4⟩ hW (by rw [ins_mem hmem];exact hLe.symm) (by rw [ins_mem hmem])
    · have h':pg.ks[plK pg.ks k]?≠some k:=of_decide_eq_false h
      obtain ⟨kid,hkid⟩:∃ x,pg.kids[plK pg.ks k]? = some x:=⟨_,List.getElem?_eq_getElem (by omega)⟩
      obtain ⟨q,hq⟩:∃ x,kp[plK pg.ks k]? = some x:=⟨_,List.getElem?_eq_getElem (by omega)⟩
      have hgk:=g4 kid (List.mem_of_getElem? hkid)
      have hfull:fullK (n+1) pg k=((rootK n kid).length == 15):=by
        show (match pg.kids[plK pg.ks k]? with
          | some kid=>(rootK n kid).length == 15
          | none=>false)=_
        rw [hkid]
      have hlt:plK pg.ks k<kp.length:=by rw [hkl,g3];omega
      refine xnil (xget (h:=xiff (by rw [beq_eq_false_iff_ne];omega) (xnil (xget (h:=?_)))))
      refine xidxn (E:=PE) (xs:=kp) (s:=cs) (h1:=hlt) (h:=fun y hy=>?_)
      refine xgetE (E:=PE) (xs:=kp) hq (h:=?_)
      refine xunf 4 (P1:=Each (PageO n) kp pg.kids) [PageO n q kid,Each (PageO n) (kp.eraseIdx (plK pg.ks k)) (pg.kids.eraseIdx (plK pg.ks k))] (fun g hg=>each_pick hg hq hkid) (app2 ?_)
      refine xkeys 0 fun s8 hs8=>?_
      refine xif (fun hf=>?_) (fun hf=>?_)
      · have hf':(rootK n kid).length=15:=by have:=eq_of_beq hf;omega
        have hl15:pg.ks.length<15:=by
          rcases hroom with h | ⟨_,h⟩
          · exact h
          · rw [hfull,hf'] at h;cases h
        refine xnil (xget (h:=?_))
        refine xfold [PageO n q kid,Each (PageO n) (kp.eraseIdx (plK pg.ks k)) (pg.kids.eraseIdx (plK pg.ks k))] (Each (PageO n) kp pg.kids) (fun g hg=>by
          have:=each_put (by omega) (by omega) hg
          rwa [set_self hq,set_self hkid] at this) ?_
        refine xpage_back pb ks vs cs kp (pg:=pg) (R:=PageO n) ?_
        refine xcl (pre:=[PageR (PageO n) (some ⟨pb,0,none⟩) pg]) (splitO_spec n (some ⟨pb,0,none⟩) pg (plK pg.ks k) kid ⟨g1,g2,g3,g4⟩ hl15 hkid hf') rdb ?_
        rintro _ _ ⟨pg',rfl,p1,p2,m,a,c,p3,p4,p5,p6⟩
        refine app1 (ca0 ?_)
        have hfu:=full_split (k:=k) (by omega) p3 p4 p5 p6
        refine xuse [Blk b [.int .i64 k.1,.int .i64 k.2],Blk tb [.int .i64 8,.pointer rp,.int .i64 (L.length:Int)],PageO (n+1) (some ⟨pb,0,none⟩) pg',W] (hK (mes (n+1) pg' k) _ _ ?_ ⟨n+1,pg',W,pre,suf,p1,by rw [p2];exact hLe,hpre,hsuf,.inr ⟨by omega,hfu⟩,rfl,hW,rfl⟩)
        unfold mes
        rw [hfu,hfull,hf'];simp
      · have hf':(rootK n kid).length≠15:=fun e=>by
          have:((s8.n:Int) == 15)=true:=by rw [hs8,e];rfl
          rw [this] at hf;cases hf
        have hkl15:=good_len hgk
        refine xnil (xget (h:=?_))
        refine xidxn (E:=PE) (xs:=kp) (s:=cs) (h1:=by omega) (h:=fun y hy=>?_)
        refine xgetE (E:=PE) (xs:=kp) hq (h:=?_)
        have hmk:(pg.kids.map (keysT n))[plK pg.ks k]? = some (keysT n kid):=by rw [List.getElem?_map,hkid];rfl
        have hkn:keysT (n+1) pg=mixA pg.ks (pg.kids.map (keysT n)) (plK pg.ks k)++(keysT n kid++mixZ pg.ks (pg.kids.map (keysT n)) (plK pg.ks k)):=mix_at _ hml hmk
        let W':HP:=star [Blk pb [ks.v,vs.v,cs.v],Ar KE ks pg.ks,Ar I64 vs pg.vs,Ar PE cs kp,Each (PageO n) (kp.eraseIdx (plK pg.ks k)) (pg.kids.eraseIdx (plK pg.ks k)),W]
        refine xfold [Blk pb [ks.v,vs.v,cs.v],Ar KE ks pg.ks,Ar I64 vs pg.vs,Ar PE cs kp,Each (PageO n) (kp.eraseIdx (plK pg.ks k)) (pg.kids.eraseIdx (plK pg.ks k)),W] W' (fun g hg=>hg) ?_
        refine xuse [Blk b [.int .i64 k.1,.int .i64 k.2],Blk tb [.int .i64 8,.pointer rp,.int .i64 (L.length:Int)],PageO n q kid,W'] (hK (mes n kid k) _ _ ?_ ⟨n,kid,W',pre++mixA pg.ks (pg.kids.map (keysT n)) (plK pg.ks k),mixZ pg.ks (pg.kids.map (keysT n)) (plK pg.ks k)++suf,hgk,?_,?_,?_,.inl (by omega),rfl,?_,rfl⟩)
        · unfold mes
          split<;>split<;>omega
        · rw [hLe,hkn];simp only [List.append_assoc]
        · intro y hy
          rcases List.mem_append.1 hy with hy | hy
          · exact hpre y hy
          · exact ahead_lt hml hsn y hy
        · intro y hy
          rcases List.mem_append.1 hy with hy | hy
          · exact behind_gt hml hsn h' y hy
          · exact hsuf y hy
        · intro kid' g hgk' hg'
          have h1:star ([PageO n q kid']++[Blk pb [ks.v,vs.v,cs.v],Ar KE ks pg.ks,Ar I64 vs pg.vs,Ar PE cs kp,Each (PageO n) (kp.eraseIdx (plK pg.ks k)) (pg.kids.eraseIdx (plK pg.ks k)),W]) g:=by
            obtain ⟨a,c,pa,⟨d,e,pd,_,_,sd,_⟩,dd,sa,sc⟩:=hg'
            exact (star_append [PageO n q kid'] _).2 ⟨a,d,star_in pa,pd,dd.sub (Sub.refl _) sd,sa,sd.trans sc⟩
          have hperm:([PageO n q kid',Blk pb [ks.v,vs.v,cs.v],Ar KE ks pg.ks,Ar I64 vs pg.vs,Ar PE cs kp,Each (PageO n) (kp.eraseIdx (plK pg.ks k)) (pg.kids.eraseIdx (plK pg.ks k)),W]:List HP).Perm
              ([PageO n q kid',Each (PageO n) (kp.eraseIdx (plK pg.ks k)) (pg.kids.eraseIdx (plK pg.ks k))]++[Blk pb [ks.v,vs.v,cs.v],Ar KE ks pg.ks,Ar I64 vs pg.vs,Ar PE cs kp,W]):=
            (inferInstance:Split [PageO n q kid',Each (PageO n) (kp.eraseIdx (plK pg.ks k)) (pg.kids.eraseIdx (plK pg.ks k))] _ _).perm
          have h2:=star_fold1 (P:=Each (PageO n) kp (pg.kids.set (plK pg.ks k) kid')) (fun g hg=>by
            have:=each_put (by omega) (by omega) hg
            rwa [set_self hq] at this) (star_perm hperm h1)
          let pg2:Pg (PT n):=⟨pg.ks,pg.vs,pg.kids.set (plK pg.ks k) kid'⟩
          have hperm2:([Each (PageO n) kp (pg.kids.set (plK pg.ks k) kid'),Blk pb [ks.v,vs.v,cs.v],Ar KE ks pg.ks,Ar I64 vs pg.vs,Ar PE cs kp,W]:List HP).Perm
              ([Blk pb [ks.v,vs.v,cs.v],Ar KE ks pg.ks,Ar I64 vs pg.vs,Ar PE cs kp,Each (PageO n) kp (pg.kids.set (plK pg.ks k) kid')]++[W]):=
            (inferInstance:Split [Blk pb [ks.v,vs.v,cs.v],Ar KE ks pg.ks,Ar I64 vs pg.vs,Ar PE cs kp,Each (PageO n) kp (pg.kids.set (plK pg.ks k) kid')] _ _).perm
          have h3:star [PageO (n+1) (some ⟨pb,0,none⟩) pg2,W] g:=star_fold1 (l:=[Blk pb [ks.v,vs.v,cs.v],Ar KE ks pg.ks,Ar I64 vs pg.vs,Ar PE cs kp,Each (PageO n) kp (pg.kids.set (plK pg.ks k) kid')]) (P:=PageO (n+1) (some ⟨pb,0,none⟩) pg2) (fun g hg=>⟨pb,ks,vs,cs,kp,rfl,hg⟩) (star_perm hperm2 h2)
          obtain ⟨N,r,r1,r2,r3⟩:=hW pg2 g ⟨g1,g2,by show (pg.kids.set _ _).length=_;simpa using g3,fun x hx=>by
            rcases List.mem_or_eq_of_mem_set hx with h | h
            · exact g4 x h
            · exact h ▸ hgk'⟩ h3
          refine ⟨N,r,r1,?_,r3⟩
          rw [r2]
          have:keysT (n+1) pg2=mixA pg.ks (pg.kids.map (keysT n)) (plK pg.ks k)++(keysT n kid'++mixZ pg.ks (pg.kids.map (keysT n)) (plK pg.ks k)):=by
            show mix pg.ks ((pg.kids.set (plK pg.ks k) kid').map (keysT n))=_
            rw [List.map_set,mix_set _ _ hml (by simp;omega)]
          rw [this];simp only [List.append_assoc]
end Go.Cx
namespace Go.Cx
open Go Go.Cf
set_option linter.unusedVariables false
set_option maxRecDepth 100000
variable {B:Base}{As F:List HP}
theorem hb_over:hasBody Pr F_tree_Tree_Range_1_1=true:=by kernel_rfl
theorem hb_range:hasBody Pr F_tree_Tree_Range_1=true:=by kernel_rfl
abbrev keyC (k:KY):List Value:=[.int .i64 k.1,.int .i64 k.2]
abbrev pv (b:Nat):Value:=.pointer (some ⟨b,0,none⟩)
abbrev overV (fb ob tb yb:Nat):Value:=.func (.func F_tree_Tree_Range_1_1) #[] #[pv fb,pv ob,pv tb,pv yb]
abbrev yieldV (l:Nat):Value:=.func (.yield l) #[] #[]
def YOk (l:Nat) (rec:Loop) (N:Nat) (St:List KY→HP):Prop:=∀ (d:List KY) (k:KY) (v:Int),d.length<N→CtY Pr l [.agg #[.int .i64 k.1,.int .i64 k.2],.int .i64 v] [LoopP l rec,St d] emp (fun Bs=>∃ Cs,Bs=LoopP l rec::Cs∧Cs=[St (d++[k])])
abbrev envR (l:Nat) (rec:Loop) (fb ob tb yb:Nat) (from' to:KY):List HP:=[LoopP l rec,Blk fb (keyC from'),Blk ob [overV fb ob tb yb],Blk tb (keyC to),Blk yb [yieldV l]]
def overPost (X:HP) (St:List KY→HP) (l:Nat) (rec:Loop) (fb ob tb yb:Nat) (from' to:KY) (d keys:List KY):Tup [.bool]→List HP→Prop:=fun t Bs=>(t.1=false→∃ y∈keys,ltK y to=false)∧Bs=X::St (d++rngK from' to keys)::envR l rec fb ob tb yb from' to
theorem app7 {A1 A2 A3 A4 A5 A6 A7:HP}{F:List HP}{φ:WP}(h:Ent B (A1::A2::A3::A4::A5::A6::A7::F) φ):Ent B ([A1,A2,A3,A4,A5,A6,A7]++F) φ:=h
theorem mix_sub:∀ {ks:List KY}{ls:List (List KY)},ks.Sublist (mix ks ls)
  | ks,[]=>by unfold mix;exact List.Sublist.refl _
  | [],l::ls=>List.nil_sublist _
  | k::ks,l::ls=>by
    show (k::ks).Sublist (l++k::mix ks ls)
    exact (mix_sub.cons_cons k).trans (List.sublist_append_right _ _)
theorem srt_keys {ks:List KY}{ls:List (List KY)}(hs:SrtK (mix ks ls)):SrtK ks:=hs.sublist mix_sub
theorem srt_after {a x z:List KY}(hs:SrtK (a++(x++z))) {to y:KY}(hy:y∈x) (h:ltK y to=false):∀ u∈z,ltK u to=false:=by
  intro u hu
  have:=(List.pairwise_append.1 (List.pairwise_append.1 hs).2.1).2.2 y hy u hu
  rw [Bool.eq_false_iff]
  intro h2
  rw [ltK_trans this h2] at h;cases h
theorem over_gen {α:Type}(R:Option Addr→α→HP) (l:Nat) (rec:Loop) (N:Nat) (St:List KY→HP) (hY:YOk l rec N St) (fb ob tb yb:Nat) (from' to:KY) (pg:Pg α) (ls:List (List KY)) (hls:ls.length=pg.ks.length+1) (hlen:pg.ks.length≤15) (hv:pg.vs.length=pg.ks.length) (hs:SrtK (mix pg.ks ls))
    (hkids:pg.kids=[]∧(∀ x∈ls,x=[])∨(pg.kids.length=pg.ks.length+1∧∀ (j:Nat) (q:Option Addr) (kid:α) (keys:List KY) (d:List KY),pg.kids[j]? = some kid→ls[j]? = some keys→d.length+(rngK from' to keys).length≤N→Ct Pr F_tree_Tree_Range_1_1 [.pointer q,pv fb,pv ob,pv tb,pv yb] .one [.bool] (R q kid::St d::envR l rec fb ob tb yb from' to) emp (overPost (R q kid) St l rec fb ob tb yb from' to d keys)))
    (p:Option Addr) (d:List KY) (hN:d.length+(rngK from' to (mix pg.ks ls)).length≤N):Ct Pr F_tree_Tree_Range_1_1 [.pointer p,pv fb,pv ob,pv tb,pv yb] .one [.bool] (PageR R p pg::St d::envR l rec fb ob tb yb from' to) emp (overPost (PageR R p pg) St l rec fb ob tb yb from' to d (mix pg.ks ls)):=by
  refine spec1 c_tree_Tree_Range_1_1 fun B _=>?_
  unfold tree_Tree_Range_1_1
  refine xget (h:=xget (h:=?_))
  refine xpage 0 fun pb ks vs cs kp hp hkl hcs=>?_
  subst hp
  refine xcl (place_raw pb ks vs.v cs.v pg.ks from' (by omega)) rdb ?_
  rintro ⟨r,c,_⟩ _ ⟨hr,_,rfl⟩
  simp only at hr;subst hr
  refine app2 (ca2 ?_)
  have hpl:=plK_le pg.ks from'
  refine xlen (E:=KE) (xs:=pg.ks) ks fun hkn _=>?_
  refine xuse (Blk pb [ks.v,vs.v,cs.v]::Ar KE ks pg.ks::Ar I64 vs pg.vs::Ar PE cs kp::Each R kp pg.kids::St d::envR l rec fb ob tb yb from' to) ?_
  -- how it ends
  have fin:∀ (d':List KY) (c:Bool),(c=false→∃ y∈mix pg.ks ls,ltK y to=false)→d'=d++rngK from' to (mix pg.ks ls) →
      Ent B (Blk pb [ks.v,vs.v,cs.v]::Ar KE ks pg.ks::Ar I64 vs pg.vs::Ar PE cs kp::Each R kp pg.kids::St d'::envR l rec fb ob tb yb from' to) (Ret B (ss:=[.bool]) (overPost (PageR R (some ⟨pb,0,none⟩) pg) St l rec fb ob tb yb from' to d (mix pg.ks ls)) (c,())):=by
    rintro d' c hc rfl
    refine xpage_back pb ks vs cs kp (pg:=pg) (R:=R) ?_
    exact xret ⟨hc,rfl⟩
  refine xjoin ?_
  refine xloop1 (fun n x As'=>∃ j:Nat,x=(j:Int)∧n=pg.ks.length+1 - j∧plK pg.ks from'≤j∧j≤pg.ks.length∧As'=Blk pb [ks.v,vs.v,cs.v]::Ar KE ks pg.ks::Ar I64 vs pg.vs::Ar PE cs kp::Each R kp pg.kids::St (d++rngK from' to (mixA pg.ks ls j))::envR l rec fb ob tb yb from' to)
    (pg.ks.length+1 - plK pg.ks from') ⟨_,rfl,rfl,Nat.le_refl _,hpl,?_⟩ ?_
  · rw [rng_low (ahead_lt hls hs),List.append_nil]
  rintro n x As' K ⟨j,rfl,rfl,hj1,hj2,rfl⟩ hK
  obtain ⟨keys,hkeys⟩:∃ x,ls[j]? = some x:=⟨_,List.getElem?_eq_getElem (by omega)⟩
  have hmix:=mix_at (ks:=pg.ks) j hls hkeys
  have hsum:d.length+((rngK from' to (mixA pg.ks ls j)).length+((rngK from' to keys).length+(rngK from' to (mixZ pg.ks ls j)).length))≤N:=by
    rw [hmix,rng_app,rng_app,List.length_append,List.length_append] at hN;exact hN
  refine xnil (xget (h:=xift (by simp;omega) (xdraw ?_)))
  -- the kid
  refine xjoin1 (fun(c1:Bool) As'=>(c1=true→∃ y∈keys,ltK y to=false)∧As'=Blk pb [ks.v,vs.v,cs.v]::Ar KE ks pg.ks::Ar I64 vs pg.vs::Ar PE cs kp::Each R kp pg.kids::St (d++rngK from' to (mixA pg.ks ls j)++rngK from' to keys)::envR l rec fb ob tb yb from' to) (fun K1 hK1=>?_) ?_
  · refine xnil (xget (h:=?_))
    rcases hkids with ⟨h0,h1⟩ | ⟨h0,h1⟩
    · refine xiff (by rw [hcs,h0];rfl) ?_
      have e:keys=[]:=h1 keys (List.mem_of_getElem? hkeys)
      refine hK1 _ _ ⟨fun h=>(by cases h),?_⟩
      rw [e];show _=Blk pb _::_::_::_::_::St (_++[])::_
      rw [List.append_nil]
    · refine xift (by simp;omega) ?_
      obtain ⟨kid,hkid⟩:∃ x,pg.kids[j]? = some x:=⟨_,List.getElem?_eq_getElem (by omega)⟩
      obtain ⟨q,hq⟩:∃ x,kp[j]? = some x:=⟨_,List.getElem?_eq_getElem (by omega)⟩
      refine xget (s:=.val) (h:=xnil (xget (h:=?_)))
      refine xidxn (E:=PE) (xs:=kp) (s:=cs) (h1:=by omega) (h:=fun y hy=>?_)
      refine xgetE (E:=PE) (xs:=kp) hq (h:=?_)
      refine xunf 4 (P1:=Each R kp pg.kids) [R q kid,Each R (kp.eraseIdx j) (pg.kids.eraseIdx j)] (fun g hg=>each_pick hg hq hkid) (app2 ?_)
      refine xdyn1 hb_over ?_
      show Ent B _ (XCall Pr F_tree_Tree_Range_1_1 [.pointer q,pv fb,pv ob,pv tb,pv yb] .one [.bool] _)
      refine xcl (h1 j q kid keys (d++rngK from' to (mixA pg.ks ls j)) hkid hkeys (by rw [List.length_append];omega)) rdb ?_
      rintro ⟨c,_⟩ _ ⟨hc,rfl⟩
      refine app7 (ca1 ?_)
      refine xfold [R q kid,Each R (kp.eraseIdx j) (pg.kids.eraseIdx j)] (Each R kp pg.kids) (fun g hg=>by
        have:=each_put (by omega) (by omega) hg
        rwa [set_self hq,set_self hkid] at this) ?_
      exact xuse' (hK1 _ _ ⟨fun h=>hc (by simpa using h),rfl⟩)
  · rintro c1 As2 ⟨hc1,rfl⟩
    refine xif (fun h=>?_) (fun h=>?_)
    · obtain ⟨y,hy,hyt⟩:=hc1 h
      refine fin _ _ (fun _=>⟨y,by rw [hmix];exact List.mem_append_right _ (List.mem_append_left _ hy),hyt⟩) ?_
      rw [hmix,rng_app,rng_app,rng_high (srt_after (a:=mixA pg.ks ls j) (x:=keys) (z:=mixZ pg.ks ls j) (by rw [←hmix];exact hs) hy hyt),List.append_nil,List.append_assoc]
    · refine xnil (xget (h:=xif (fun h2=>?_) (fun h2=>?_)))
      · have hj:j=pg.ks.length:=by have:=eq_of_beq h2;omega
        refine fin _ _ (fun h=>(by cases h)) ?_
        rw [hmix,mixZ_end j (by omega),List.append_nil,rng_app,List.append_assoc]
      · have hj:j<pg.ks.length:=by
          have:(j:Int)≠ks.n:=by simpa using h2
          omega
        obtain ⟨k,hk⟩:∃ x,pg.ks[j]? = some x:=⟨_,List.getElem?_eq_getElem hj⟩
        have hge:ltK k from'=false:=by
          rw [Bool.eq_false_iff]
          intro hlt
          have h3:plK pg.ks from'<pg.ks.length:=by omega
          have h4:=plK_ge (k:=from') (List.getElem?_eq_getElem h3)
          rcases Nat.eq_or_lt_of_le hj1 with e | e
          · subst e
            rw [List.getElem?_eq_getElem h3] at hk
            obtain rfl:=Option.some.inj hk
            rw [h4] at hlt;cases hlt
          · have hsk:SrtK pg.ks:=srt_keys hs
            have h5:=List.pairwise_iff_getElem.1 hsk _ _ h3 hj e
            have h6:pg.ks[j]=k:=by rw [List.getElem?_eq_getElem hj] at hk;exact Option.some.inj hk
            rw [h6] at h5
            rw [ltK_trans h5 hlt] at h4;cases h4
        obtain ⟨z,hz⟩:=mixZ_head j hls hk
        refine xdraw (xjoin1 (fun(c3:Bool) As'=>(c3=true→ltK k to=false∧As'=Blk pb [ks.v,vs.v,cs.v]::Ar KE ks pg.ks::Ar I64 vs pg.vs::Ar PE cs kp::Each R kp pg.kids::St (d++rngK from' to (mixA pg.ks ls j)++rngK from' to keys)::envR l rec fb ob tb yb from' to) ∧
          (c3=false→ltK k to=true∧As'=Blk pb [ks.v,vs.v,cs.v]::Ar KE ks pg.ks::Ar I64 vs pg.vs::Ar PE cs kp::Each R kp pg.kids::St (d++rngK from' to (mixA pg.ks ls j)++rngK from' to keys++[k])::envR l rec fb ob tb yb from' to)) (fun K2 hK2=>?_) ?_)
        · refine xnil (xget (h:=?_))
          refine xidxn (E:=KE) (xs:=pg.ks) (s:=ks) (h1:=hj) (h:=fun y hy=>?_)
          obtain rfl:y=k:=by rw [hk] at hy;exact (Option.some.inj hy).symm
          refine xgetE (E:=KE) (xs:=pg.ks) hy (h:=?_)
          refine xgetEj (E:=KE) (xs:=pg.ks) hy (h:=xget (h:=xget (h:=?_)))
          refine xcall0 (below_spec y to) rdb ?_
          rintro ⟨t,_⟩ _ ⟨ht,rfl⟩
          simp only at ht;subst ht
          refine app0 (ca1 (xif (fun h3=>?_) (fun h3=>?_)))
          · exact hK2 _ _ ⟨fun _=>⟨by simpa using h3,rfl⟩,fun h=>(by cases h)⟩
          · refine xget (s:=.val) (h:=xnil (xget (h:=?_)))
            refine xidxn (E:=KE) (xs:=pg.ks) (s:=ks) (h1:=hj) (h:=fun y' hy'=>?_)
            refine xgetE (E:=KE) (xs:=pg.ks) hy (h:=?_)
            refine xgetEj (E:=KE) (xs:=pg.ks) hy (h:=xnil (xget (h:=?_)))
            refine xidxn (E:=I64) (xs:=pg.vs) (s:=vs) (h1:=by omega) (h:=fun u hu=>?_)
            refine xgetE (E:=I64) (xs:=pg.vs) hu (h:=?_)
            refine xdyny ?_
            refine xyield (pre:=[LoopP l rec,St (d++rngK from' to (mixA pg.ks ls j)++rngK from' to keys)]) (hY _ y u (by
              have e:(rngK from' to (mixZ pg.ks ls j)).length=1+(rngK from' to z).length:=by
                rw [hz,show y::z=[y]++z from rfl,rng_app,rng_one hge (by simpa using h3),List.length_append];rfl
              rw [List.length_append,List.length_append];omega)) (Split.perm) rdb ?_
            rintro _ ⟨_,rfl,rfl⟩
            refine app2 ?_
            exact xuse' (hK2 _ _ ⟨fun h=>(by cases h),fun _=>⟨by simpa using h3,rfl⟩⟩)
        · rintro c3 As3 ⟨h3,h4⟩
          refine xif (fun h=>?_) (fun h=>?_)
          · obtain ⟨h5,rfl⟩:=h3 h
            have hm:k∈mixZ pg.ks ls j:=by rw [hz];simp
            refine fin _ _ (fun _=>⟨k,by rw [hmix];exact List.mem_append_right _ (List.mem_append_right _ hm),h5⟩) ?_
            have hsz:SrtK (k::z):=by
              rw [hmix,hz] at hs
              exact (List.pairwise_append.1 (List.pairwise_append.1 hs).2.1).2.1
            rw [hmix,rng_app,rng_app,hz,rng_high (ge_of h5 hsz),List.append_nil,List.append_assoc]
          · obtain ⟨h5,rfl⟩:=h4 h
            rw [wrap_succ j (by omega)]
            refine hK (pg.ks.length+1 - (j+1)) _ _ (by omega) ⟨j+1,rfl,rfl,by omega,by omega,?_⟩
            rw [mixA_succ j hk hkeys,rng_app,rng_app,rng_one hge h5]
            simp only [List.append_assoc]
theorem mix_empty:∀ (ks:List KY),mix ks (List.replicate (ks.length+1) [])=ks
  | []=>rfl
  | k::ks=>by
    show []++k::mix ks (List.replicate (ks.length+1) [])=k::ks
    rw [mix_empty ks];rfl
theorem over_spec (l:Nat) (rec:Loop) (N:Nat) (St:List KY→HP) (hY:YOk l rec N St) (fb ob tb yb:Nat) (from' to:KY):∀ (n:Nat) (pg:PT n) (p:Option Addr) (d:List KY),goodT n pg→SrtK (keysT n pg)→d.length+(rngK from' to (keysT n pg)).length≤N →
    Ct Pr F_tree_Tree_Range_1_1 [.pointer p,pv fb,pv ob,pv tb,pv yb] .one [.bool] (PageO n p pg::St d::envR l rec fb ob tb yb from' to) emp (overPost (PageO n p pg) St l rec fb ob tb yb from' to d (keysT n pg))
  | 0,(pg:Pg Empty),p,d,hg,hs,hN=>by
    have hg':pg.ks.length≤15∧pg.vs.length=pg.ks.length:=hg
    have e:=mix_empty pg.ks
    have h:=over_gen ER l rec N St hY fb ob tb yb from' to pg (List.replicate (pg.ks.length+1) []) (by simp) hg'.1 hg'.2 (by rw [e];exact hs) (.inl ⟨by cases h:pg.kids with | nil=>rfl | cons x _=>exact x.elim,fun x hx=>(List.mem_replicate.1 hx).2⟩) p d (by rw [e];exact hN)
    rw [e] at h
    exact h
  | n+1,(pg:Pg (PT n)),p,d,hg,hs,hN=>by
    obtain ⟨g1,g2,g3,g4⟩:pg.ks.length≤15∧pg.vs.length=pg.ks.length∧pg.kids.length=pg.ks.length+1∧∀ k∈pg.kids,goodT n k:=hg
    have hml:(pg.kids.map (keysT n)).length=pg.ks.length+1:=by simpa using g3
    have hs':SrtK (mix pg.ks (pg.kids.map (keysT n))):=hs
    refine over_gen (PageO n) l rec N St hY fb ob tb yb from' to pg (pg.kids.map (keysT n)) hml g1 g2 hs' (.inr ⟨g3,fun j q kid keys d hk hkeys hd=>?_⟩) p d hN
    have e:keys=keysT n kid:=by
      rw [List.getElem?_map,hk] at hkeys
      exact (Option.some.inj hkeys).symm
    subst e
    refine over_spec l rec N St hY fb ob tb yb from' to n kid q d (g4 kid (List.mem_of_getElem? hk)) ?_ hd
    rw [mix_at j hml hkeys] at hs'
    exact (List.pairwise_append.1 (List.pairwise_append.1 hs').2.1).1
theorem range1_spec (l:Nat) (rec:Loop) (N:Nat) (St:List KY→HP) (hY:YOk l rec N St) (fb tb qb:Nat) (from' to:KY) (q:Option Addr) (L:List KY) (d:List KY) (hN:d.length+(rngK from' to L).length≤N) :
    Ct Pr F_tree_Tree_Range_1 [yieldV l,pv fb,pv tb,pv qb] (.tup []) [] [LoopP l rec,St d,Blk fb (keyC from'),Blk tb (keyC to),Blk qb [.pointer q],TreeObj q L] emp
      (fun _ Bs=>Bs=[LoopP l rec,St (d++rngK from' to L),Blk fb (keyC from'),Blk tb (keyC to),Blk qb [.pointer q],TreeObj q L]):=by
  refine spec0 c_tree_Tree_Range_1 fun B _=>?_
  unfold tree_Tree_Range_1
  refine xnew fun yb=>xnew fun ob=>xset (h:=xget (h:=?_))
  refine xtree 7 fun hs b rp hq=>?_
  subst hq
  refine xnil (xget (h:=?_))
  refine xjoin0 (fun As'=>As'=[LoopP l rec,St (d++rngK from' to L),Blk fb (keyC from'),Blk tb (keyC to),Blk qb [pv b],TreeObj (some ⟨b,0,none⟩) L]) (fun K1 hK1=>?_) ?_
  · refine xopen 1 (fun Bs=>(rp=none∧L=[]∧Bs=[])∨∃ (n:Nat) (pg:PT n),goodT n pg∧keysT n pg=L∧rp≠none∧Bs=[PageO n rp pg]) (fun g hg=>?_) ?_
    · rcases hg with ⟨h1,h2⟩ | ⟨n,pg,h1,h2,h3⟩
      · exact ⟨[],.inl ⟨h1,h2,rfl⟩,trivial⟩
      · obtain ⟨rb,hrb⟩:=h3.some
        exact ⟨_,.inr ⟨n,pg,h1,h2,by rw [hrb];simp,rfl⟩,star_in h3⟩
    · rintro Bs (⟨rfl,rfl,rfl⟩ | ⟨n,pg,h1,h2,h3,rfl⟩)
      · refine app0 (xiff rfl ?_)
        refine xadd (A:=RootO none []) (.inl ⟨rfl,rfl⟩) ?_
        refine xtree_back b none [] hs ?_
        have:=hK1 _ rfl
        rw [show rngK from' to []=[] from rfl,List.append_nil] at this
        exact xuse' this
      · refine app1 (xift (by cases rp with | none=>exact absurd rfl h3 | some a=>rfl) (xdraw (xget (s:=.val) (h:=xget (h:=?_)))))
        refine xnil (xget (h:=xdyn1 hb_over ?_))
        show Ent B _ (XCall Pr F_tree_Tree_Range_1_1 [.pointer rp,pv fb,pv ob,pv tb,pv yb] .one [.bool] _)
        refine xcl (over_spec l rec N St hY fb ob tb yb from' to n pg rp d h1 (by rw [h2];exact hs) (by rw [h2];exact hN)) rdb ?_
        rintro ⟨c,_⟩ _ ⟨_,rfl⟩
        rw [h2]
        refine app7 (ca1 ?_)
        refine xfold [PageO n rp pg] (RootO rp L) (fun g hg=>?_) ?_
        · obtain ⟨a,_,pa,_,_,sa,_⟩:=hg
          exact .inr ⟨n,pg,h1,h2,pa.mono sa⟩
        · refine xtree_back b rp L hs ?_
          exact xuse' (hK1 _ rfl)
  · rintro As2 rfl
    exact xret rfl
theorem Range_tree (q:Option Addr) (from' to:KY):Ct Pr F_tree_Tree_Range [.pointer q,.agg #[.int .i64 from'.1,.int .i64 from'.2],.agg #[.int .i64 to.1,.int .i64 to.2]] .one [.val] [] emp
    (fun t Bs=>∃ fb tb qb,t.1=.func (.func F_tree_Tree_Range_1) #[] #[pv fb,pv tb,pv qb]∧Bs=[Blk fb (keyC from'),Blk tb (keyC to),Blk qb [.pointer q]]):=by
  refine spec1 c_tree_Tree_Range fun B _=>?_
  unfold tree_Tree_Range
  refine xnew fun b=>xnew fun b1=>xnew fun b2=>?_
  exact xuse [Blk b1 (keyC from'),Blk b2 (keyC to),Blk b [.pointer q]] (xret ⟨b1,b2,b,rfl,rfl⟩)
end Go.Cx
namespace Go.Cx
open Go Go.Cf
variable {B:Base}{As F:List HP}
theorem Len_tree (q:Option Addr) (L:List KY):Ct Pr F_tree_Tree_Len [.pointer q] .one [.int .i64] [TreeObj q L] emp (fun t Bs=>t.1=(L.length:Int)∧Bs=[TreeObj q L]):=by
  refine spec1 c_tree_Tree_Len fun B _=>?_
  unfold tree_Tree_Len
  refine xtree 0 fun hs b rp hq=>?_
  subst hq
  exact xnil (xget (h:=xtree_back b rp L hs (xret ⟨rfl,rfl⟩)))
end Go.Cx
