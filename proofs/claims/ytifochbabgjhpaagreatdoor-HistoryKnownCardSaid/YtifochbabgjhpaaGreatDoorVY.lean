/-
  The document's index: a list in order; what lies in a span.
  The document's index: an entry put into its place; Add.
  The document's record: a number in eight bytes; how long a record is.
  A record that is read, by its length.
  The document's record: Get.
  The document's index is opened; a store of the document's.
  A store of the document's; records, files and answers of the document's.
-/
import Derived.Test.YtifochbabgjhpaaGreatDoorVX
import Derived.Test.YtifochbabgjhpaaGreatDoorR1
import Derived.Test.YtifochbabgjhpaaGreatDoorHY
import Derived.Test.YtifochbabgjhpaaGreatDoorTX
namespace Go.Cx
open Go Go.Cf
set_option linter.unusedVariables false
set_option maxRecDepth 100000
variable {B:Base}{As F:List HP}{α:Type}
structure RInv (m:XM):Prop where
  srt:SrtK m.L
  top:∀ y∈m.L,0≤y.2∧y.2≤m.last
  last:(m.L=[]∧m.last = -1)∨∃ y∈m.L,y.2=m.last
  len:m.L.length≤1000000
def RIdxObj (x d l:Option Addr) (m:XM):HP:=fun h=>RInv m∧∃ b s,x=some ⟨b,0,none⟩∧star [Blk b [.pointer d,.pointer l,s.v],Ar KE s m.L] h
theorem xridx (i:Nat) {x d l:Option Addr}{m:XM}{F:List HP} [r:Pick i As (RIdxObj x d l m) F] {φ:WP}
    (k:RInv m→∀ b s,x=some ⟨b,0,none⟩→Ent B (Blk b [.pointer d,.pointer l,s.v]::Ar KE s m.L::F) φ):Ent B As φ:=by
  refine Ent.perm r.perm ?_
  intro w hw
  obtain ⟨g,⟨a,c,⟨hi,b,s,hp,pa⟩,pc,d',sa,sc⟩,hm,hu⟩:=hw
  exact k hi b s hp w ⟨g,(star_append [_,_] F).2 ⟨a,c,pa,pc,d',sa,sc⟩,hm,hu⟩
theorem xridx_back (b:Nat) (s:Sl) {d l:Option Addr}{m:XM}{G:List HP} [q:Split [Blk b [.pointer d,.pointer l,s.v],Ar KE s m.L] As G] {φ:WP}
    (hi:RInv m) (k:Ent B (RIdxObj (some ⟨b,0,none⟩) d l m::G) φ):Ent B As φ:=
  xfold [Blk b [.pointer d,.pointer l,s.v],Ar KE s m.L] (RIdxObj (some ⟨b,0,none⟩) d l m) (fun g hg=>⟨hi,b,s,rfl,hg⟩) k
def rngL (L:List KY) (a b floor:Int):List Int:=selK floor (rngK (a,0) (b,0) L)
theorem rngL_snoc (L:List KY) (y:KY) (a b floor:Int) (h0:0≤y.2):rngL (L++[y]) a b floor=rngL L a b floor++(if y.1≥a∧y.1<b∧y.2≥floor then [y.2] else []):=by
  have h1:(!(ltK y (a,0))&&ltK y (b,0))=decide (y.1≥a∧y.1<b):=by
    unfold ltK
    rw [Bool.eq_iff_iff]
    simp
    omega
  unfold rngL rngK selK
  rw [List.filter_append,List.filter_append,List.map_append]
  congr 1
  simp only [List.filter_cons,List.filter_nil,h1]
  by_cases h2:y.1≥a∧y.1<b
  · by_cases h3:y.2≥floor
    · rw [if_pos (by simpa using h2),if_pos ⟨h2.1,h2.2,h3⟩];simp [h3]
    · rw [if_pos (by simpa using h2),if_neg (fun e=>h3 e.2.2)];simp [h3]
  · rw [if_neg (by simpa using h2),if_neg (fun e=>h2 ⟨e.1,e.2.1⟩)];simp
theorem rRange_spec (x d l:Option Addr) (m:XM) (a b floor:Int):Ct Pr F_ref16_Index_Range [.pointer x,.int .i64 a,.int .i64 b,.int .i64 floor] .one [.slice] [RIdxObj x d l m] emp
    (fun t Bs=>Bs=[RIdxObj x d l m,Ar I64 t.1 (rngX m a b floor)]):=by
  refine spec1 c_ref16_Index_Range fun B _=>?_
  unfold ref16_Index_Range
  refine xridx 0 fun hi bx s hx=>?_
  subst hx
  have hlen:=hi.len
  refine xlen (E:=KE) (xs:=m.L) s fun hsn _=>?_
  refine xnone I64 ?_
  refine xuse [Blk bx [.pointer d,.pointer l,s.v],Ar KE s m.L,Ar I64 ⟨none,0,0⟩ []] ?_
  refine xloop2 (fun n (out:Sl) (z:Int) As'=>∃ k:Nat,z=(k:Int)∧n=m.L.length - k∧k≤m.L.length∧As'=[Blk bx [.pointer d,.pointer l,s.v],Ar KE s m.L,Ar I64 out (rngL (m.L.take k) a b floor)]) m.L.length ⟨0,rfl,rfl,by omega,by simp [rngL,rngK,selK]⟩ ?_
  rintro n out _ _ K ⟨k,rfl,rfl,hk,rfl⟩ hK
  refine xnil (xget (h:=xif_dec (fun hlt=>?_) (fun hlt=>?_)))
  · have hkl:k<m.L.length:=by omega
    obtain ⟨⟨t,q⟩,hy⟩:∃ y,m.L[k]? = some y:=⟨_,List.getElem?_eq_getElem hkl⟩
    have hq:=hi.top _ (List.mem_of_getElem? hy)
    have etake:m.L.take (k+1)=m.L.take k++[(t,q)]:=by rw [List.take_add_one,hy];rfl
    have hsn':=rngL_snoc (m.L.take k) (t,q) a b floor hq.1
    rw [←etake] at hsn'
    have hl2:(rngL (m.L.take k) a b floor).length≤1000000:=by
      unfold rngL selK rngK
      rw [List.length_map]
      refine Nat.le_trans (List.length_filter_le _ _) (Nat.le_trans (List.length_filter_le _ _) ?_)
      rw [List.length_take];omega
    have fin:∀ (out2:Sl) (bb:Nat),Ent B [Blk bx [.pointer d,.pointer l,s.v],Ar KE s m.L,Ar I64 out2 (rngL (m.L.take (k+1)) a b floor)] (K out2 (IntKind.i64.wrap ((k:Int)+1))):=fun out2 _=>by
      rw [wrap_succ k (by omega)]
      exact hK (m.L.length - (k+1)) _ _ _ (by omega) ⟨k+1,rfl,rfl,by omega,rfl⟩
    refine xnil (xget (h:=?_))
    refine xidxn (E:=KE) (xs:=m.L) (s:=s) (h1:=hkl) (h:=fun _ _=>?_)
    refine xgetE (E:=KE) (xs:=m.L) hy (h:=?_)
    refine xgetEj (E:=KE) (xs:=m.L) hy (h:=?_)
    dsimp only
    refine xnew fun bb=>?_
    iterate 2 (refine xset (h:=?_))
    refine xget (h:=?_)
    refine xjoin1 (fun(c:Bool) As'=>c=decide (t≥a∧t<b)∧As'=[Blk bb [.int .i64 t,.int .i64 q],Blk bx [.pointer d,.pointer l,s.v],Ar KE s m.L,Ar I64 out (rngL (m.L.take k) a b floor)]) (fun K1 hK1=>xif_dec (fun h=>xget (h:=hK1 _ _ ⟨by simp [h],rfl⟩)) (fun h=>hK1 _ _ ⟨by simp [h],rfl⟩)) ?_
    rintro c _ ⟨rfl,rfl⟩
    refine xjoin1 (fun(c:Bool) As'=>c=decide (t≥a∧t<b∧q≥floor)∧As'=[Blk bb [.int .i64 t,.int .i64 q],Blk bx [.pointer d,.pointer l,s.v],Ar KE s m.L,Ar I64 out (rngL (m.L.take k) a b floor)]) (fun K1 hK1=>xif_dec (fun h=>xget (h:=hK1 _ _ ⟨by simp [h],rfl⟩)) (fun h=>hK1 _ _ ⟨by rw [Bool.eq_iff_iff];simp;omega,rfl⟩)) ?_
    rintro c _ ⟨rfl,rfl⟩
    refine xjoin (xif_dec (fun h=>?_) (fun h=>?_))
    · refine xget (h:=xnew fun b1=>?_)
      refine xapp1 (E:=I64) q (hb:=by omega) (h:=fun s2=>?_)
      rw [if_pos h] at hsn'
      rw [←hsn']
      exact xuse' (fin s2 b1)
    · rw [if_neg h,List.append_nil] at hsn'
      rw [←hsn']
      exact xuse' (fin out bb)
  · rw [List.take_of_length_le (by omega)]
    refine xridx_back (d:=d) (l:=l) (m:=m) bx s hi ?_
    exact xuse [RIdxObj (some ⟨bx,0,none⟩) d l m,Ar I64 out (rngL m.L a b floor)] (xret rfl)
end Go.Cx
namespace Go.Cx
open Go Go.Cf
set_option linter.unusedVariables false
set_option maxRecDepth 100000
variable {B:Base}{As F:List HP}{α:Type}
theorem ltK_spec (a b:KY):ltK a b=true↔a.1<b.1∨(a.1=b.1∧a.2<b.2):=by
  unfold ltK;simp
theorem srt_at {k:KY}:∀ {L:List KY},SrtK L→k∉L→∃ i,i≤L.length∧(∀ y∈L.take i,ltK y k=true)∧(∀ y∈L.drop i,ltK k y=true)
  | [],_,_=>⟨0,by simp,by simp,by simp⟩
  | x::L,hs,hk=>by
    obtain ⟨h1,h2⟩:=List.pairwise_cons.1 hs
    have hne:k≠x:=fun e=>hk (by rw [e];simp)
    have hne2:¬ (k.1=x.1∧k.2=x.2):=fun e=>hne (Prod.ext e.1 e.2)
    cases hx:ltK x k with
    | true=>
      obtain ⟨i,g1,g2,g3⟩:=srt_at h2 (fun e=>hk (List.mem_cons_of_mem _ e))
      refine ⟨i+1,by simp;omega,fun y hy=>?_,by simpa using g3⟩
      rw [List.take_succ_cons] at hy
      rcases List.mem_cons.1 hy with rfl | hy
      · exact hx
      · exact g2 y hy
    | false=>
      have hkx:ltK k x=true:=by
        have:=mt (ltK_spec x k).2 (by rw [hx];simp)
        rw [ltK_spec];omega
      refine ⟨0,by simp,by simp,fun y hy=>?_⟩
      rw [List.drop_zero] at hy
      rcases List.mem_cons.1 hy with rfl | hy
      · exact hkx
      · have:=(ltK_spec _ _).1 (h1 y hy)
        rw [ltK_spec] at hkx ⊢
        omega
theorem rPut16_raw (bx:Nat) (d l:Option Addr) (s:Sl) (L:List KY) (k:KY) (hs:SrtK L) (hk:k∉L) (hl:L.length≤1000000):Ct Pr F_ref16_Index_put [.pointer (some ⟨bx,0,none⟩),.agg #[.int .i64 k.1,.int .i64 k.2]] (.tup []) [] [Blk bx [.pointer d,.pointer l,s.v],Ar KE s L] emp
    (fun _ Bs=>∃ s':Sl,Bs=[Blk bx [.pointer d,.pointer l,s'.v],Ar KE s' (insK k L)]):=by
  refine spec0 c_ref16_Index_put fun B _=>?_
  obtain ⟨a,a1,a2,a3⟩:=srt_at hs hk
  have hins:=ins_at a2 a3
  unfold insAt at hins
  unfold ref16_Index_put
  refine xnew fun b=>?_
  refine xlen (E:=KE) (xs:=L) s fun hsn _=>?_
  refine xnone KE ?_
  refine xuse [Blk b [.int .i64 k.1,.int .i64 k.2],Blk bx [.pointer d,.pointer l,s.v],Ar KE s L,Ar KE ⟨none,0,0⟩ []] ?_
  let St:Nat→List KY:=fun i=>if i≤a then L.take i else L.take a++k::(L.take i).drop a
  refine xloop3 (fun n (out:Sl) (laid:Bool) (z:Int) As'=>∃ i:Nat,z=(i:Int)∧n=L.length - i∧i≤L.length∧laid=decide (a<i)∧As'=[Blk b [.int .i64 k.1,.int .i64 k.2],Blk bx [.pointer d,.pointer l,s.v],Ar KE s L,Ar KE out (if i≤a then L.take i else L.take a++k::(L.take i).drop a)]) L.length ⟨0,rfl,rfl,by omega,by simp,by simp⟩ ?_
  rintro n out laid _ _ K ⟨i,rfl,rfl,hi,rfl,rfl⟩ hK
  refine xnil (xget (h:=xif_dec (fun hlt=>?_) (fun hlt=>?_)))
  · have hil:i<L.length:=by omega
    obtain ⟨⟨t,q⟩,hy⟩:∃ y,L[i]? = some y:=⟨_,List.getElem?_eq_getElem hil⟩
    have etake:L.take (i+1)=L.take i++[(t,q)]:=by rw [List.take_add_one,hy];rfl
    have hcmp:ltK k (t,q)=decide (a≤i):=by
      rw [Bool.eq_iff_iff,decide_eq_true_eq]
      constructor
      · intro h
        rcases Nat.lt_or_ge i a with h1 | h1
        · have hm:(t,q)∈L.take a:=List.mem_of_getElem? (i:=i) (by rw [List.getElem?_take_of_lt h1];exact hy)
          have:=(ltK_spec _ _).1 (a2 _ hm)
          have:=(ltK_spec _ _).1 h
          simp only at *
          omega
        · exact h1
      · intro h
        exact a3 _ (List.mem_of_getElem? (i:=i - a) (by rw [List.getElem?_drop];rw [show a+(i - a)=i by omega];exact hy))
    -- is the entry put here
    refine xdraw (xjoin1 (fun(c:Bool) As'=>c=decide (a=i)∧As'=[Blk b [.int .i64 k.1,.int .i64 k.2],Blk bx [.pointer d,.pointer l,s.v],Ar KE s L,Ar KE out (if i≤a then L.take i else L.take a++k::(L.take i).drop a)]) (fun K1 hK1=>?_) ?_)
    · refine xif (fun h=>?_) (fun h=>hK1 _ _ ⟨?_,rfl⟩)
      · have hia:¬ a<i:=by simpa using h
        have hcmp':ltK k (t,q)=decide (a=i):=by rw [hcmp,Bool.eq_iff_iff];simp;omega
        refine xget (h:=xnil (xget (h:=?_)))
        refine xidxn (E:=KE) (xs:=L) (s:=s) (h1:=hil) (h:=fun _ _=>?_)
        refine xgetE (E:=KE) (xs:=L) hy (h:=xif_dec (fun h1=>?_) (fun h1=>?_))
        · exact hK1 _ _ ⟨by rw [←hcmp'];exact ((ltK_spec _ _).2 (.inl h1)).symm,rfl⟩
        · refine xget (h:=xnil (xget (h:=?_)))
          refine xidxn (E:=KE) (xs:=L) (s:=s) (h1:=hil) (h:=fun _ _=>?_)
          refine xgetE (E:=KE) (xs:=L) hy (h:=xif (fun h2=>?_) (fun h2=>?_))
          · have h2':k.1=t:=by simpa using h2
            refine xget (h:=xnil (xget (h:=?_)))
            refine xidxn (E:=KE) (xs:=L) (s:=s) (h1:=hil) (h:=fun _ _=>?_)
            refine xgetEj (E:=KE) (xs:=L) hy (h:=hK1 _ _ ⟨?_,rfl⟩)
            rw [←hcmp',Bool.eq_iff_iff,ltK_spec,decide_eq_true_eq]
            simp only;omega
          · have h2':¬ k.1=t:=by simpa using h2
            refine hK1 _ _ ⟨?_,rfl⟩
            rw [←hcmp',Bool.eq_iff_iff,ltK_spec]
            simp only [Bool.false_eq_true,false_iff]
            simp only at h1;omega
      · have:a<i:=by simpa using h
        have:¬ a=i:=by omega
        simp [this]
    rintro c _ ⟨rfl,rfl⟩
    have hstl:(if i≤a then L.take i else L.take a++k::(L.take i).drop a).length≤1000002:=by
      split
      · rw [List.length_take];omega
      · rw [List.length_append,List.length_cons,List.length_take,List.length_drop,List.length_take];omega
    refine xjoin2 (fun(out1:Sl) (laid1:Bool) As'=>laid1=decide (a<i+1)∧As'=[Blk bx [.pointer d,.pointer l,s.v],Ar KE s L,Blk b [.int .i64 k.1,.int .i64 k.2],Ar KE out1 (if i<a then L.take i else L.take a++k::(L.take i).drop a)]) (fun K1 hK1=>?_) ?_
    · refine xif_dec (fun h=>?_) (fun h=>?_)
      · refine xget (h:=xget (h:=xnew fun b1=>?_))
        refine xapp1 (E:=KE) k (hb:=by omega) (h:=fun s4=>?_)
        have e:(if i≤a then L.take i else L.take a++k::(L.take i).drop a)++[k]=(if i<a then L.take i else L.take a++k::(L.take i).drop a):=by
          subst h
          rw [if_pos (Nat.le_refl _),if_neg (Nat.lt_irrefl _),List.drop_of_length_le (by rw [List.length_take];omega)]
        rw [e]
        refine xuse [Blk bx [.pointer d,.pointer l,s.v],Ar KE s L,Blk b [.int .i64 k.1,.int .i64 k.2],Ar KE s4 (if i<a then L.take i else L.take a++k::(L.take i).drop a)] (hK1 _ _ _ ⟨?_,rfl⟩)
        simp;omega
      · have e:(if i≤a then L.take i else L.take a++k::(L.take i).drop a)=(if i<a then L.take i else L.take a++k::(L.take i).drop a):=by
          by_cases h1:i<a
          · rw [if_pos h1,if_pos (by omega)]
          · rw [if_neg h1,if_neg (by omega)]
        rw [e]
        refine xuse [Blk bx [.pointer d,.pointer l,s.v],Ar KE s L,Blk b [.int .i64 k.1,.int .i64 k.2],Ar KE out (if i<a then L.take i else L.take a++k::(L.take i).drop a)] (hK1 _ _ _ ⟨?_,rfl⟩)
        rw [Bool.eq_iff_iff];simp;omega
    rintro (out1:Sl) (laid1:Bool) _ ⟨rfl,rfl⟩
    have hstl2:(if i<a then L.take i else L.take a++k::(L.take i).drop a).length≤1000002:=by
      split
      · rw [List.length_take];omega
      · rw [List.length_append,List.length_cons,List.length_take,List.length_drop,List.length_take];omega
    refine xnil (xget (h:=?_))
    refine xidxn (E:=KE) (xs:=L) (s:=s) (h1:=hil) (h:=fun _ _=>?_)
    refine xgetE (E:=KE) (xs:=L) hy (h:=?_)
    refine xgetEj (E:=KE) (xs:=L) hy (h:=?_)
    dsimp only
    refine xnew fun b2=>?_
    refine xapp1 (E:=KE) ((t,q):KY) (hb:=by omega) (h:=fun s6=>?_)
    rw [wrap_succ i (by omega)]
    refine xuse [Blk b [.int .i64 k.1,.int .i64 k.2],Blk bx [.pointer d,.pointer l,s.v],Ar KE s L,Ar KE s6 ((if i<a then L.take i else L.take a++k::(L.take i).drop a)++[(t,q)])] (hK (L.length - (i+1)) _ _ _ _ (by omega) ⟨i+1,rfl,rfl,by omega,rfl,?_⟩)
    congr 5
    rw [etake]
    by_cases h1:i<a
    · rw [if_pos h1,if_pos (by omega)]
    · rw [if_neg h1,if_neg (by omega),List.drop_append_of_le_length (by rw [List.length_take];omega)];simp
  · have hil:i=L.length:=by omega
    subst hil
    refine xjoin1 (fun(out2:Sl) As'=>As'=[Blk bx [.pointer d,.pointer l,s.v],Ar KE out2 (insK k L)]) (fun K1 hK1=>?_) ?_
    · refine xif (fun h=>?_) (fun h=>?_)
      · have hia:¬ a<L.length:=by simpa using h
        have hae:a=L.length:=by omega
        refine xget (h:=xget (h:=xnew fun b1=>?_))
        have hstl:(if L.length≤a then L.take L.length else L.take a++k::(L.take L.length).drop a).length≤1000002:=by
          rw [if_pos (by omega),List.length_take];omega
        refine xapp1 (E:=KE) k (hb:=by omega) (h:=fun s7=>?_)
        have e:(if L.length≤a then L.take L.length else L.take a++k::(L.take L.length).drop a)++[k]=insK k L:=by
          rw [hins,if_pos (by omega),hae,List.drop_length]
        rw [e]
        exact xuse [Blk bx [.pointer d,.pointer l,s.v],Ar KE s7 (insK k L)] (hK1 _ _ rfl)
      · have hia:a<L.length:=by simpa using h
        have e:(if L.length≤a then L.take L.length else L.take a++k::(L.take L.length).drop a)=insK k L:=by
          rw [hins,if_neg (by omega),List.take_length]
        rw [e]
        exact xuse [Blk bx [.pointer d,.pointer l,s.v],Ar KE out (insK k L)] (hK1 _ _ rfl)
    rintro (out2:Sl) _ rfl
    refine xnil (xset (h:=?_))
    exact xuse [Blk bx [.pointer d,.pointer l,out2.v],Ar KE out2 (insK k L)] (xret ⟨out2,rfl⟩)
theorem rinv_put {m:XM}(hi:RInv m) {t n:Int}(h0:0≤n) (hn:m.last<n) (hl:m.L.length≤999999):RInv (putX m t n)∧(t,n)∉m.L:=by
  have hno:(t,n)∉m.L:=fun h=>by have:=(hi.top _ h).2;simp only at this;omega
  have hlast:(putX m t n).last=n:=by show (if n>m.last then n else m.last)=n;rw [if_pos hn]
  refine ⟨⟨ins_srt hi.srt,fun y hy=>?_,.inr ⟨(t,n),(ins_iff hi.srt).2 (.inl rfl),hlast.symm⟩,?_⟩,hno⟩
  · rw [hlast]
    rcases (ins_iff hi.srt).1 hy with rfl | hy
    · exact ⟨h0,Int.le_refl _⟩
    · have:=hi.top y hy;omega
  · show (insK (t,n) m.L).length≤_
    rw [ins_len hno];omega
theorem rPut16_spec (x d l:Option Addr) (m:XM) (t n:Int) (h0:0≤n) (hn:m.last<n) (hl:m.L.length≤999999):Ct Pr F_ref16_Index_put [.pointer x,.agg #[.int .i64 t,.int .i64 n]] (.tup []) [] [RIdxObj x d l m] emp
    (fun _ Bs=>Bs=[RIdxObj x d l (putX m t n)]):=by
  refine spec0 (φ:=XCall Pr F_ref16_Index_put [.pointer x,.agg #[.int .i64 t,.int .i64 n]] (.tup []) []) id fun B _=>?_
  refine xridx 0 fun hi b s hx=>?_
  subst hx
  obtain ⟨hi2,hno⟩:=rinv_put hi h0 hn (t:=t) hl
  refine xcl (rPut16_raw b d l s m.L (t,n) hi.srt hno (by omega)) rdb ?_
  rintro _ _ ⟨s',rfl⟩
  refine app2 ?_
  refine xfold [Blk b [.pointer d,.pointer l,s'.v],Ar KE s' (insK (t,n) m.L)] (RIdxObj (some ⟨b,0,none⟩) d l (putX m t n)) (fun g hg=>⟨hi2,b,s',rfl,hg⟩) ?_
  exact xuse [RIdxObj (some ⟨b,0,none⟩) d l (putX m t n)] (xret rfl)
theorem rAdd16_spec (x d l:Option Addr) (m:XM) (k:KY) (hl:m.L.length≤999999):Ct Pr F_ref16_Index_Add [.pointer x,.int .i64 k.1,.int .i64 k.2] .one [.int .i64] [RIdxObj x d l m] emp
    (fun t Bs=>Bs=[RIdxObj x d l (addX m k)]):=by
  refine spec1 c_ref16_Index_Add fun B _=>?_
  unfold ref16_Index_Add
  have hcond:((((decide (k.1<0))||(decide (k.1>1099511627776)))||(decide (k.2<0)))||(decide (k.2>1099511627776)))=decide (k.1<0∨k.1>1099511627776∨k.2<0∨k.2>1099511627776):=by
    rw [Bool.eq_iff_iff]
    simp only [Bool.or_eq_true,decide_eq_true_eq];omega
  rw [hcond]
  refine xif_dec (fun h=>?_) (fun h=>?_)
  · have e:addX m k=m:=by unfold addX;rw [if_pos h]
    rw [e];exact xret rfl
  have e:addX m k=if k.2≤m.last then m else putX m k.1 k.2:=by unfold addX;rw [if_neg h]
  rw [e]
  refine xridx 0 fun hi b s hx=>?_
  subst hx
  refine xlen (E:=KE) (xs:=m.L) s fun hsn _=>?_
  have hlen:=hi.len
  refine xloop1 (fun n (z:Int) As'=>∃ i:Nat,z=(i:Int)∧n=m.L.length - i∧i≤m.L.length∧(∀ y∈m.L.take i,y.2<k.2)∧As'=[Blk b [.pointer d,.pointer l,s.v],Ar KE s m.L]) m.L.length ⟨0,rfl,rfl,by omega,by simp,rfl⟩ ?_
  rintro n _ _ K ⟨i,rfl,rfl,hi',hno,rfl⟩ hK
  refine xnil (xget (h:=xif_dec (fun hlt=>?_) (fun hlt=>?_)))
  · have hil:i<m.L.length:=by omega
    obtain ⟨y,hy⟩:∃ y,m.L[i]? = some y:=⟨_,List.getElem?_eq_getElem hil⟩
    have hym:=hi.top y (List.mem_of_getElem? hy)
    refine xnil (xget (h:=?_))
    refine xidxn (E:=KE) (xs:=m.L) (s:=s) (h1:=hil) (h:=fun _ _=>?_)
    refine xgetEj (E:=KE) (xs:=m.L) hy (h:=xif_dec (fun h2=>?_) (fun h2=>?_))
    · rw [if_pos (by omega)]
      refine xridx_back (d:=d) (l:=l) (m:=m) b s hi ?_
      exact xuse [RIdxObj (some ⟨b,0,none⟩) d l m] (xret rfl)
    · rw [wrap_succ i (by omega)]
      refine hK _ _ _ (by omega) ⟨i+1,rfl,rfl,by omega,fun z hz=>?_,rfl⟩
      rw [List.take_add_one,hy] at hz
      rcases List.mem_append.1 hz with hz | hz
      · exact hno z hz
      · obtain rfl:z=y:=by simpa using hz
        omega
  · rw [List.take_of_length_le (by omega)] at hno
    have hlt2:m.last<k.2:=by
      rcases hi.last with ⟨_,h1⟩ | ⟨y,h1,h2⟩
      · omega
      · have:=hno y h1;omega
    rw [if_neg (by omega)]
    refine xridx_back (d:=d) (l:=l) (m:=m) b s hi ?_
    refine xcl (rPut16_spec (some ⟨b,0,none⟩) d l m k.1 k.2 (by omega) hlt2 hl) rdb ?_
    rintro _ _ rfl
    exact app1 (ca0 (xuse [RIdxObj (some ⟨b,0,none⟩) d l (putX m k.1 k.2)] (xret rfl)))
end Go.Cx
namespace Go.Cx
open Go Go.Cf
set_option linter.unusedVariables false
set_option maxRecDepth 100000
variable {B:Base}{As F:List HP}{α:Type}
theorem rAt_spec (b:Sl) (xs:List UInt8) (i:Nat) (hi:i+8≤xs.length) (hm:xs.length≤140737488351232):Ct Pr F_ref11_at [b.v,.int .i64 (i:Int)] .one [.int .i64] [] (RAr U8 b xs)
    (fun t Bs=>t.1=IntKind.i64.wrap ((beV (cut8 xs i):Nat):Int)∧Bs=[]):=by
  refine spec1 c_ref11_at fun B hr=>?_
  haveI:Fro B b U8 xs:=⟨hr⟩
  have hn:=hr.1
  unfold ref11_at
  have h8:(cut8 xs i).length=8:=cut8_len hi
  have e256:(2:Int) ^ (min (Int.toNat 8) 64)=256:=by decide
  rw [e256]
  refine xloop2 (fun n (u:Int) (z:Int) As'=>∃ k:Nat,z=(k:Int)∧n=8 - k∧k≤8∧u=((beV ((cut8 xs i).take k):Nat):Int)∧As'=[]) 8 ⟨0,rfl,rfl,by omega,by simp [beV],rfl⟩ ?_
  rintro n _ _ _ K ⟨k,rfl,rfl,hk,rfl,rfl⟩ hK
  refine xif_dec (fun h=>?_) (fun h=>?_)
  · have hk8:k<8:=by omega
    obtain ⟨y,hy⟩:∃ y,xs[i+k]? = some y:=⟨_,List.getElem?_eq_getElem (by omega)⟩
    have hc:(cut8 xs i)[k]? = some y:=by rw [cut8_get hk8,hy]
    have etake:(cut8 xs i).take (k+1)=(cut8 xs i).take k++[y]:=by rw [List.take_add_one,hc];rfl
    have hs:=beV_snoc ((cut8 xs i).take k) y
    rw [←etake] at hs
    have hl1:=beV_small h8 hk8
    have hy8:=y.toNat_lt
    refine xasrt (by decide) ?_
    rw [wrap_id _ (by omega) (by omega),show (i:Int)+(k:Int)=((i+k:Nat):Int) by omega]
    refine xidxn (E:=U8) (xs:=xs) (s:=b) (h1:=by omega) (h:=fun _ _=>?_)
    refine xgetE (E:=U8) (xs:=xs) hy (h:=?_)
    have w1:IntKind.u64.wrap (((beV ((cut8 xs i).take k):Nat):Int)*256)=((beV ((cut8 xs i).take k)*256:Nat):Int):=by
      rw [show ((beV ((cut8 xs i).take k):Nat):Int)*256=((beV ((cut8 xs i).take k)*256:Nat):Int) by omega,wrap_u64 _ (by omega)]
    rw [w1,wrap_u64 y.toNat (by omega),←Int.natCast_add,wrap_u64 _ (by omega),wrap_succ k (by omega)]
    exact hK _ _ _ _ (by omega) ⟨k+1,rfl,rfl,by omega,by rw [hs],rfl⟩
  · have:k=8:=by omega
    subst this
    rw [List.take_of_length_le (by omega)]
    exact xret ⟨rfl,rfl⟩
def lenM (k:Int) (xs:List UInt8):Int:=
  if k=1∨k=2 then (if xs.length<10 then -1 else 18+((xs.getD 9 0).toNat:Int)) else if k=6 then 25 else 17
theorem rLen11_spec (b:Sl) (x:UInt8) (rest:List UInt8) (hk:1≤(x.toNat:Int)∧(x.toNat:Int)≤6):Ct Pr F_ref11_length [b.v] .one [.int .i64] [] (RAr U8 b (x::rest))
    (fun t Bs=>t.1=lenM (x.toNat:Int) (x::rest)∧Bs=[]):=by
  refine spec1 c_ref11_length fun B hr=>?_
  haveI:Fro B b U8 (x::rest):=⟨hr⟩
  have hn:=hr.1
  have tag:∀ {As:List HP}{k:Int}{K:Bool→WP},Ent B As (K ((k == 1)||(k == 2)))→Ent B As (XCall Pr F_ref11_tagged [.int .i64 k] .one [.bool] K):=by
    intro As k K hK
    refine xcall0 (tagged_spec k) rdb ?_
    rintro ⟨c,_⟩ _ ⟨hc,rfl⟩
    simp only at hc;subst hc
    exact app0 (ca1 hK)
  have nam:∀ {As:List HP}{k:Int}{K:Bool→WP},Ent B As (K ((k == 5)||(k == 6)))→Ent B As (XCall Pr F_ref11_named [.int .i64 k] .one [.bool] K):=by
    intro As k K hK
    refine xcall0 (named_spec11 k) rdb ?_
    rintro ⟨c,_⟩ _ ⟨hc,rfl⟩
    simp only at hc;subst hc
    exact app0 (ca1 hK)
  have val:∀ {As:List HP}{k:Int}{K:Bool→WP},Ent B As (K (k != 5))→Ent B As (XCall Pr F_ref11_valued [.int .i64 k] .one [.bool] K):=by
    intro As k K hK
    refine xcall0 (valued_spec k) rdb ?_
    rintro ⟨c,_⟩ _ ⟨hc,rfl⟩
    simp only at hc;subst hc
    exact app0 (ca1 hK)
  have x256:=x.toNat_lt
  have wx:IntKind.i64.wrap (x.toNat:Int)=(x.toNat:Int):=wrap_id _ (by omega) (by omega)
  unfold ref11_length
  refine xidxn (E:=U8) (xs:=x::rest) (s:=b) (k:=0) (h1:=by simp) (h:=fun _ _=>xgetE (E:=U8) (xs:=x::rest) (x:=x) rfl (h:=?_))
  rw [wx]
  refine tag ?_
  have tail:∀ (n:Int),0≤n→n≤1000→n+(if (x.toNat:Int)=6 then 16 else 8)=lenM (x.toNat:Int) (x::rest)→Ent B [] (XIdx b.p b.n 0 1 fun a2=>XGet (.int .u8) a2 fun(y2:Int)=>XCall Pr F_ref11_named [.int .i64 (IntKind.i64.wrap (y2))] .one [.bool]<|fun(c1:Bool)=>XJoin [.int .i64] (fun(K'1:Int→WP)=>XIf c1 (K'1 (IntKind.i64.wrap (n+8))) (K'1 n))<|fun(n1:Int)=>XIdx b.p b.n 0 1 fun a3=>XGet (.int .u8) a3 fun(y3:Int)=>XCall Pr F_ref11_valued [.int .i64 (IntKind.i64.wrap (y3))] .one [.bool]<|fun(c2:Bool)=>XJoin [.int .i64] (fun(K'2:Int→WP)=>XIf c2 (K'2 (IntKind.i64.wrap (n1+8))) (K'2 n1))<|fun(n2:Int)=>Ret B (ss:=[.int .i64]) (fun t Bs=>t.1=lenM (x.toNat:Int) (x::rest)∧Bs=[]) (n2,())):=by
    intro n h0 h1 h2
    refine xidxn (E:=U8) (xs:=x::rest) (s:=b) (k:=0) (h1:=by simp) (h:=fun _ _=>xgetE (E:=U8) (xs:=x::rest) (x:=x) rfl (h:=?_))
    rw [wx]
    refine nam (xjoin1 (fun(y:Int) As'=>y=(if (x.toNat:Int)=5∨(x.toNat:Int)=6 then n+8 else n)∧As'=[]) (fun K1 hK1=>xif (fun h=>hK1 _ _ ⟨?_,rfl⟩) (fun h=>hK1 _ _ ⟨?_,rfl⟩)) ?_)
    · rw [wrap_id _ (by omega) (by omega),if_pos (by simpa using h)]
    · rw [if_neg (by simpa using h)]
    rintro (y:Int) _ ⟨rfl,rfl⟩
    refine xidxn (E:=U8) (xs:=x::rest) (s:=b) (k:=0) (h1:=by simp) (h:=fun _ _=>xgetE (E:=U8) (xs:=x::rest) (x:=x) rfl (h:=?_))
    rw [wx]
    refine val (xjoin (xif (fun h=>xret ⟨?_,rfl⟩) (fun h=>xret ⟨?_,rfl⟩)))
    · have h5:¬ (x.toNat:Int)=5:=by simpa using h
      show IntKind.i64.wrap ((if (x.toNat:Int)=5∨(x.toNat:Int)=6 then n+8 else n)+8)=_
      rw [←h2]
      by_cases h6:(x.toNat:Int)=6
      · rw [if_pos (.inr h6),if_pos h6,wrap_id _ (by omega) (by omega)];omega
      · rw [if_neg (by omega),if_neg h6,wrap_id _ (by omega) (by omega)]
    · have h5:(x.toNat:Int)=5:=by simpa using h
      show (if (x.toNat:Int)=5∨(x.toNat:Int)=6 then n+8 else n)=_
      rw [←h2,if_pos (.inl h5),if_neg (by omega)]
  refine xjoin1 (fun(n:Int) As'=>(0≤n∧n≤1000∧n+(if (x.toNat:Int)=6 then 16 else 8)=lenM (x.toNat:Int) (x::rest))∧As'=[]) (fun K1 hK1=>?_) ?_
  · refine xif (fun h=>?_) (fun h=>hK1 _ _ ⟨⟨by omega,by omega,?_⟩,rfl⟩)
    · have ht:(x.toNat:Int)=1∨(x.toNat:Int)=2:=by simpa using h
      refine xif_dec (fun h2=>xret ⟨?_,rfl⟩) (fun h2=>?_)
      · unfold lenM;rw [if_pos ht,if_pos (by simp at hn ⊢;omega)]
      · obtain ⟨y,hy⟩:∃ y,(x::rest)[9]? = some y:=⟨_,List.getElem?_eq_getElem (by simp at hn ⊢;omega)⟩
        have hy8:=y.toNat_lt
        refine xidxn (E:=U8) (xs:=x::rest) (s:=b) (k:=9) (h1:=(List.getElem?_eq_some_iff.1 hy).1) (h:=fun _ _=>xgetE (E:=U8) (xs:=x::rest) (x:=y) hy (h:=?_))
        rw [wrap_id (y.toNat:Int) (by omega) (by omega),wrap_id _ (by omega) (by omega)]
        refine hK1 _ _ ⟨⟨by omega,by omega,?_⟩,rfl⟩
        unfold lenM
        rw [if_pos ht,if_neg (by simp at hn ⊢;omega),if_neg (by omega),List.getD_eq_getElem?_getD,hy]
        simp only [Option.getD_some];omega
    · have ht:¬ ((x.toNat:Int)=1∨(x.toNat:Int)=2):=by simpa using h
      unfold lenM
      rw [if_neg ht]
      split<;>omega
  rintro (n:Int) _ ⟨⟨n1,n2,n3⟩,rfl⟩
  exact tail n n1 n2 n3
end Go.Cx
namespace Go.Cx
open Go Go.Cf
set_option linter.unusedVariables false
set_option maxRecDepth 100000
variable {B:Base}{As F:List HP}{α:Type}
abbrev num8 (xs:List UInt8) (i:Nat):Int:=IntKind.i64.wrap ((beV (cut8 xs i):Nat):Int)
def recOf (k:Int) (xs:List UInt8):RE:=
  if k=1∨k=2 then ⟨k,num8 xs 1,⟨((xs.drop 10).take (xs.getD 9 0).toNat).toArray⟩,num8 xs (10+(xs.getD 9 0).toNat),0⟩
  else if k=5 then ⟨k,num8 xs 1,ByteArray.empty,0,num8 xs 9⟩
  else if k=6 then ⟨k,num8 xs 1,ByteArray.empty,num8 xs 17,num8 xs 9⟩
  else ⟨k,num8 xs 1,ByteArray.empty,num8 xs 9,0⟩
theorem num_short {r:List UInt8}(h:r.length<8) (sh:Bool):numM r sh=(0,r,true):=by unfold numM;rw [if_pos h]
theorem num_long {r:List UInt8}(h:¬ r.length<8) (sh:Bool):numM r sh=(IntKind.i64.wrap ((beV (r.take 8):Nat):Int),r.drop 8,sh):=by unfold numM;rw [if_neg h]
theorem fin_short (r:RE) (rest:List UInt8):(finM r rest true).2≠0:=by unfold finM;simp
theorem fin_long (r:RE) {rest:List UInt8}(h:0<rest.length) (sh:Bool):(finM r rest sh).2≠0:=by
  cases sh<;>simp [finM,h]
theorem fin_ok (r:RE):finM r [] false=if checkR r≠0 then (rec0,checkR r) else (r,0):=by unfold finM;simp
theorem fin_bad (r:RE) {rest:List UInt8}{sh:Bool}(h:sh=true∨0<rest.length):(finM r rest sh).2≠0:=by
  rcases h with rfl | h
  · exact fin_short _ _
  · exact fin_long _ h _
theorem num_inv (r:List UInt8) (sh:Bool):(numM r sh).2.2=true∨((numM r sh).2.2=sh∧(numM r sh).2.1.length+8=r.length):=by
  by_cases h:r.length<8
  · left;rw [num_short h]
  · right;rw [num_long h];exact ⟨rfl,by simp only [List.length_drop];omega⟩
theorem num_true (r:List UInt8):(numM r true).2.2=true:=by unfold numM;split<;>rfl
theorem cut_one (x:UInt8) (rest:List UInt8) (i:Nat):cut8 (x::rest) (i+1)=(rest.drop i).take 8:=by
  unfold cut8
  rw [show i+1+8=(i+8)+1 by omega,List.take_succ_cons,List.drop_succ_cons,List.drop_take]
  congr 1;omega
theorem getM_len (x:UInt8) (rest:List UInt8) (hk:1≤(x.toNat:Int)∧(x.toNat:Int)≤6) :
    (((x::rest).length:Int)≠lenM (x.toNat:Int) (x::rest)→(getM (x::rest)).2≠0) ∧
    (((x::rest).length:Int)=lenM (x.toNat:Int) (x::rest)→getM (x::rest)=if checkR (recOf (x.toNat:Int) (x::rest))≠0 then (rec0,checkR (recOf (x.toNat:Int) (x::rest))) else (recOf (x.toNat:Int) (x::rest),0)):=by
  have hw:withinB (x.toNat:Int) 1 6=true:=by unfold withinB;simp;omega
  rw [getM_ok hw]
  generalize hK:(x.toNat:Int)=k at *
  have hlen:((x::rest).length:Int)=rest.length+1:=by simp
  rw [hlen]
  by_cases h12:k=1∨k=2
  · have e1:∀ a,getK k a=tagged k a:=fun a=>by unfold getK;rw [if_pos h12]
    have e2:lenM k (x::rest)=if rest.length<9 then -1 else 18+((rest.getD 8 0).toNat:Int):=by
      unfold lenM;rw [if_pos h12]
      simp only [List.length_cons]
      by_cases h:rest.length<9
      · rw [if_pos h,if_pos (by omega)]
      · rw [if_neg h,if_neg (by omega)];rfl
    rw [e1,e2]
    by_cases h9:rest.length<9
    · rw [if_pos h9]
      refine ⟨fun _=>?_,fun e=>by omega⟩
      by_cases h8:rest.length<8
      · rw [num_short h8]
        cases rest with
        | nil=>simp [tagged]
        | cons n r2=>
          unfold tagged
          simp only
          by_cases h1:r2.length<n.toNat
          · rw [if_pos h1];simp
          · rw [if_neg h1]
            have:(numM (r2.drop n.toNat) true).2.2=true:=by unfold numM;split<;>rfl
            rw [this];exact fin_short _ _
      · rw [num_long h8]
        unfold tagged
        simp only
        rw [List.drop_of_length_le (by omega)];simp
    · rw [if_neg h9,num_long (by omega)]
      obtain ⟨n,hn⟩:∃ n,rest[8]? = some n:=⟨_,List.getElem?_eq_getElem (by omega)⟩
      have hd:rest.drop 8=n::rest.drop 9:=by
        rw [List.drop_eq_getElem_cons (by omega)];congr 1
        exact (List.getElem?_eq_some_iff.1 hn).2
      have hg:rest.getD 8 0=n:=by rw [List.getD_eq_getElem?_getD,hn];rfl
      unfold tagged
      simp only
      rw [hd,hg]
      simp only
      have hl9:(rest.drop 9).length=rest.length - 9:=List.length_drop
      refine ⟨fun h=>?_,fun h=>?_⟩
      · by_cases h1:(rest.drop 9).length<n.toNat
        · rw [if_pos h1];simp
        · rw [if_neg h1]
          by_cases h2:((rest.drop 9).drop n.toNat).length<8
          · rw [num_short h2];exact fin_short _ _
          · rw [num_long h2]
            rw [List.length_drop] at h2
            exact fin_long _ (by rw [List.length_drop,List.length_drop];omega) _
      · rw [if_neg (by omega)]
        have h2:((rest.drop 9).drop n.toNat).length=8:=by rw [List.length_drop];omega
        rw [num_long (by omega)]
        simp only
        rw [List.drop_of_length_le (l:=(rest.drop 9).drop n.toNat) (by omega),fin_ok]
        have e3:recOf k (x::rest)=⟨k,IntKind.i64.wrap ((beV (rest.take 8):Nat):Int),⟨((rest.drop 9).take n.toNat).toArray⟩,IntKind.i64.wrap ((beV (((rest.drop 9).drop n.toNat).take 8):Nat):Int),0⟩:=by
          unfold recOf num8
          rw [if_pos h12]
          have g9:(x::rest).getD 9 0=n:=hg
          rw [g9,cut_one x rest 0,show 10+n.toNat=(9+n.toNat)+1 by omega,cut_one,List.drop_drop];rfl
        rw [e3]
  · have two:rest.length≠16→(numM (numM rest false).2.1 (numM rest false).2.2).2.2=true∨0<(numM (numM rest false).2.1 (numM rest false).2.2).2.1.length:=fun hne=>by
      rcases num_inv rest false with h1 | ⟨h1,h2⟩
      · left;rw [h1];exact num_true _
      · rcases num_inv (numM rest false).2.1 (numM rest false).2.2 with h3 | ⟨h3,h4⟩
        · exact .inl h3
        · right;omega
    have two':rest.length=16→numM rest false=(num8 (x::rest) 1,rest.drop 8,false)∧numM (rest.drop 8) false=(num8 (x::rest) 9,[],false):=fun he=>by
      rw [num_long (by omega),num_long (by rw [List.length_drop];omega),List.drop_of_length_le (l:=rest.drop 8) (by rw [List.length_drop];omega)]
      unfold num8
      rw [cut_one x rest 0,cut_one x rest 8]
      exact ⟨rfl,rfl⟩
    by_cases h5:k=5
    · have e1:∀ a:Int×List UInt8×Bool,getK k a=finM ⟨k,a.1,ByteArray.empty,0,(numM a.2.1 a.2.2).1⟩ (numM a.2.1 a.2.2).2.1 (numM a.2.1 a.2.2).2.2:=fun a=>by unfold getK;rw [if_neg h12,if_pos h5]
      have e2:lenM k (x::rest)=17:=by unfold lenM;rw [if_neg h12,if_neg (by omega)]
      rw [e1,e2]
      refine ⟨fun h=>fin_bad _ (two (by omega)),fun h=>?_⟩
      obtain ⟨t1,t2⟩:=two' (by omega)
      rw [t1];simp only;rw [t2];simp only
      rw [fin_ok]
      have e3:recOf k (x::rest)=⟨k,num8 (x::rest) 1,ByteArray.empty,0,num8 (x::rest) 9⟩:=by unfold recOf;rw [if_neg h12,if_pos h5]
      rw [e3]
    by_cases h6:k=6
    · have e1:∀ a:Int×List UInt8×Bool,getK k a=finM ⟨k,a.1,ByteArray.empty,(numM (numM a.2.1 a.2.2).2.1 (numM a.2.1 a.2.2).2.2).1,(numM a.2.1 a.2.2).1⟩ (numM (numM a.2.1 a.2.2).2.1 (numM a.2.1 a.2.2).2.2).2.1 (numM (numM a.2.1 a.2.2).2.1 (numM a.2.1 a.2.2).2.2).2.2:=fun a=>by unfold getK;rw [if_neg h12,if_neg h5,if_pos h6]
      have e2:lenM k (x::rest)=25:=by unfold lenM;rw [if_neg h12,if_pos h6]
      rw [e1,e2]
      refine ⟨fun h=>fin_bad _ ?_,fun h=>?_⟩
      · rcases num_inv rest false with h1 | ⟨h1,h2⟩
        · left;rw [h1,num_true];exact num_true _
        · rcases num_inv (numM rest false).2.1 (numM rest false).2.2 with h3 | ⟨h3,h4⟩
          · left;rw [h3];exact num_true _
          · rcases num_inv (numM (numM rest false).2.1 (numM rest false).2.2).2.1 (numM (numM rest false).2.1 (numM rest false).2.2).2.2 with h7 | ⟨h7,h8⟩
            · exact .inl h7
            · right;omega
      · have t1:numM rest false=(num8 (x::rest) 1,rest.drop 8,false):=by rw [num_long (by omega)];unfold num8;rw [cut_one x rest 0];rfl
        have t2:numM (rest.drop 8) false=(num8 (x::rest) 9,rest.drop 16,false):=by rw [num_long (by rw [List.length_drop];omega),List.drop_drop];unfold num8;rw [cut_one x rest 8]
        have t3:numM (rest.drop 16) false=(num8 (x::rest) 17,[],false):=by rw [num_long (by rw [List.length_drop];omega),List.drop_of_length_le (l:=rest.drop 16) (by rw [List.length_drop];omega)];unfold num8;rw [cut_one x rest 16]
        rw [t1];simp only;rw [t2];simp only;rw [t3];simp only
        rw [fin_ok]
        have e3:recOf k (x::rest)=⟨k,num8 (x::rest) 1,ByteArray.empty,num8 (x::rest) 17,num8 (x::rest) 9⟩:=by unfold recOf;rw [if_neg h12,if_neg h5,if_pos h6]
        rw [e3]
    · have e1:∀ a:Int×List UInt8×Bool,getK k a=finM ⟨k,a.1,ByteArray.empty,(numM a.2.1 a.2.2).1,0⟩ (numM a.2.1 a.2.2).2.1 (numM a.2.1 a.2.2).2.2:=fun a=>by unfold getK;rw [if_neg h12,if_neg h5,if_neg h6]
      have e2:lenM k (x::rest)=17:=by unfold lenM;rw [if_neg h12,if_neg h6]
      rw [e1,e2]
      refine ⟨fun h=>fin_bad _ (two (by omega)),fun h=>?_⟩
      obtain ⟨t1,t2⟩:=two' (by omega)
      rw [t1];simp only;rw [t2];simp only
      rw [fin_ok]
      have e3:recOf k (x::rest)=⟨k,num8 (x::rest) 1,ByteArray.empty,num8 (x::rest) 9,0⟩:=by unfold recOf;rw [if_neg h12,if_neg h5,if_neg h6]
      rw [e3]
end Go.Cx
namespace Go.Cx
open Go Go.Cf
set_option linter.unusedVariables false
set_option maxRecDepth 100000
variable {B:Base}{As F:List HP}{α:Type}
def r11Post (bs:List UInt8):Tup [.int .i64,.int .i64,.str,.int .i64,.int .i64,.int .i64]→List HP→Prop:=fun t Bs=>
  ((t.2.2.2.2.2.1=0↔(getM bs).2=0)∧((getM bs).2=0→t.1=(getM bs).1.kind∧t.2.1=(getM bs).1.time∧t.2.2.1=(getM bs).1.tag∧t.2.2.2.1=(getM bs).1.val∧t.2.2.2.2.1=(getM bs).1.id))∧Bs=[]
theorem rGet11_spec (b:Sl) (bs:List UInt8) (hc:b.n≤b.c) (hm:bs.length≤140737488351232):Ct Pr F_ref11_Get [b.v] (.tup [some 5,none]) [.int .i64,.int .i64,.str,.int .i64,.int .i64,.int .i64] [] (RAr U8 b bs) (r11Post bs):=by
  refine spec_gen (ss:=[.int .i64,.int .i64,.str,.int .i64,.int .i64,.int .i64]) c_ref11_Get fun B hr=>?_
  show Ent B [] (ref11_Get b fun x0 x1 x2 x3 x4 x5=>Ret B (ss:=[.int .i64,.int .i64,.str,.int .i64,.int .i64,.int .i64]) (r11Post bs) (x0,x1,x2,x3,x4,x5,()))
  haveI:Fro B b U8 bs:=⟨hr⟩
  have hn:=hr.1
  have err:∀ {As:List HP}{a0 a1 a3 a4 e:Int}{a2:ByteArray},e≠0→(getM bs).2≠0→Ent B As (Ret B (ss:=[.int .i64,.int .i64,.str,.int .i64,.int .i64,.int .i64]) (r11Post bs) (a0,a1,a2,a3,a4,e,())):=fun h1 h2=>xkeep (l:=[]) (xret ⟨⟨⟨fun h=>absurd h h1,fun h=>absurd h h2⟩,fun h=>absurd h h2⟩,rfl⟩)
  unfold ref11_Get
  refine xnew fun b1=>?_
  cases bs with
  | nil=>
    have h0:b.n=0:=by simpa using hn.symm
    refine xift (by rw [h0];rfl) ?_
    iterate 5 (refine xset (h:=?_))
    iterate 5 (refine xget (h:=?_))
    exact err (by decide) (by simp [getM])
  | cons x rest=>
  have h0:b.n=rest.length+1:=by simpa using hn.symm
  have x256:=x.toNat_lt
  have wx:IntKind.i64.wrap (x.toNat:Int)=(x.toNat:Int):=wrap_id _ (by omega) (by omega)
  refine xiff (by simp;omega) ?_
  refine xidxn (E:=U8) (xs:=x::rest) (s:=b) (k:=0) (h1:=by simp) (h:=fun _ _=>xgetE (E:=U8) (xs:=x::rest) (x:=x) rfl (h:=xnew fun b2=>?_))
  rw [wx]
  iterate 5 (refine xset (h:=?_))
  refine xget (h:=?_)
  refine xjoin1 (fun(c:Bool) As'=>c=decide ((x.toNat:Int)<1∨(x.toNat:Int)>6)∧As'=[Blk b2 [.int .i64 (x.toNat:Int),.int .i64 0,.string ByteArray.empty,.int .i64 0,.int .i64 0],Blk b1 [.int .i64 0,.int .i64 0,.string ByteArray.empty,.int .i64 0,.int .i64 0]]) (fun K hK=>xif_dec (fun h=>hK _ _ ⟨by simp [h],rfl⟩) (fun h=>xget (h:=hK _ _ ⟨by rw [Bool.eq_iff_iff];simp;omega,rfl⟩))) ?_
  rintro c _ ⟨rfl,rfl⟩
  refine xif_dec (fun h=>?_) (fun h=>?_)
  · iterate 5 (refine xset (h:=?_))
    iterate 5 (refine xget (h:=?_))
    refine err (by decide) ?_
    rw [getM_bad (by unfold withinB;rw [Bool.eq_false_iff];simp;omega)];simp
  have hk:1≤(x.toNat:Int)∧(x.toNat:Int)≤6:=by omega
  obtain ⟨L1,L2⟩:=getM_len x rest hk
  refine xcl (pre:=[]) (rLen11_spec b x rest hk) rdb ?_
  rintro ⟨t,_⟩ _ ⟨ht,rfl⟩
  simp only at ht;subst ht
  have hlen:((x::rest).length:Int)=b.n:=by simp;omega
  refine app0 (ca1 (xif (fun h2=>?_) (fun h2=>?_)))
  · iterate 5 (refine xset (h:=?_))
    iterate 5 (refine xget (h:=?_))
    exact err (by decide) (L1 (by simp only [Bool.or_eq_true,decide_eq_true_eq] at h2;omega))
  simp only [Bool.or_eq_false_iff,decide_eq_false_iff_not] at h2
  refine xif_dec (fun h3=>?_) (fun h3=>?_)
  · iterate 5 (refine xset (h:=?_))
    iterate 5 (refine xget (h:=?_))
    exact err (by decide) (L1 (by omega))
  have hL:((x::rest).length:Int)=lenM (x.toNat:Int) (x::rest):=by omega
  have hg:=L2 hL
  have x5:=hk.2
  generalize hkx:(x.toNat:Int)=k at *
  generalize hxs:x::rest=xs at *
  have hxl:xs.length=b.n:=hn
  have atc:∀ {As:List HP}{i:Nat}{K:Int→WP},i+8≤xs.length→Ent B As (K (num8 xs i))→Ent B As (XCall Pr F_ref11_at [b.v,.int .i64 (i:Int)] .one [.int .i64] K):=by
    intro As i K hi hK
    refine xcl (pre:=[]) (rAt_spec b xs i hi hm) rdb ?_
    rintro ⟨t,_⟩ _ ⟨ht,rfl⟩
    simp only at ht;subst ht
    exact app0 (ca1 hK)
  have tag:∀ {As:List HP}{k:Int}{K:Bool→WP},Ent B As (K ((k == 1)||(k == 2)))→Ent B As (XCall Pr F_ref11_tagged [.int .i64 k] .one [.bool] K):=by
    intro As k K hK
    refine xcall0 (tagged_spec k) rdb ?_
    rintro ⟨c,_⟩ _ ⟨hc,rfl⟩
    simp only at hc;subst hc
    exact app0 (ca1 hK)
  have nam:∀ {As:List HP}{k:Int}{K:Bool→WP},Ent B As (K ((k == 5)||(k == 6)))→Ent B As (XCall Pr F_ref11_named [.int .i64 k] .one [.bool] K):=by
    intro As k K hK
    refine xcall0 (named_spec11 k) rdb ?_
    rintro ⟨c,_⟩ _ ⟨hc,rfl⟩
    simp only at hc;subst hc
    exact app0 (ca1 hK)
  have val:∀ {As:List HP}{k:Int}{K:Bool→WP},Ent B As (K (k != 5))→Ent B As (XCall Pr F_ref11_valued [.int .i64 k] .one [.bool] K):=by
    intro As k K hK
    refine xcall0 (valued_spec k) rdb ?_
    rintro ⟨c,_⟩ _ ⟨hc,rfl⟩
    simp only at hc;subst hc
    exact app0 (ca1 hK)
  have hT:(k=1∨k=2)→10≤xs.length∧xs.length=18+(xs.getD 9 0).toNat:=fun hT=>by
    unfold lenM at hL
    rw [if_pos hT] at hL
    split at hL<;>omega
  have hF:¬ (k=1∨k=2)→xs.length=if k=6 then 25 else 17:=fun hT=>by
    unfold lenM at hL
    rw [if_neg hT] at hL
    split at hL <;> (split<;>omega)
  generalize h9:(xs.getD 9 0).toNat=n9 at *
  have hL9:17≤xs.length:=by
    by_cases h:k=1∨k=2
    · have:=hT h;omega
    · have:=hF h;split at this<;>omega
  obtain ⟨tg,htg⟩:∃ tg:ByteArray,tg=if k=1∨k=2 then ⟨((xs.drop 10).take n9).toArray⟩ else ByteArray.empty:=⟨_,rfl⟩
  obtain ⟨j,hj⟩:∃ j:Nat,j=if k=1∨k=2 then 10+n9 else 9:=⟨_,rfl⟩
  obtain ⟨j2,hj2⟩:∃ j2:Nat,j2=if k=5∨k=6 then j+8 else j:=⟨_,rfl⟩
  obtain ⟨id',hid⟩:∃ z:Int,z=if k=5∨k=6 then num8 xs j else 0:=⟨_,rfl⟩
  obtain ⟨vl,hvl⟩:∃ z:Int,z=if k≠5 then num8 xs j2 else 0:=⟨_,rfl⟩
  have hjl:j+8≤xs.length:=by
    rw [hj];split
    · rename_i h;have:=hT h;omega
    · omega
  have hjl2:k≠5→j2+8≤xs.length:=fun h5=>by
    by_cases h:k=1∨k=2
    · have:=hT h;rw [hj2,if_neg (by omega),hj,if_pos h];omega
    · have:=hF h;rw [hj2,hj,if_neg h];split<;>split at this<;>omega
  have erec:recOf k xs=⟨k,num8 xs 1,tg,vl,id'⟩:=by
    unfold recOf
    rw [h9]
    by_cases h12:k=1∨k=2
    · rw [if_pos h12,htg,if_pos h12,hvl,if_pos (by omega),hid,if_neg (by omega),hj2,if_neg (by omega),hj,if_pos h12] <;> rfl
    · rw [if_neg h12,htg,if_neg h12,hvl,hid,hj2,hj,if_neg h12]
      by_cases h5:k=5
      · rw [if_pos h5,if_neg (by omega),if_pos (.inl h5)]
      · rw [if_neg h5,if_pos h5]
        by_cases h6:k=6
        · rw [if_pos h6,if_pos (.inr h6),if_pos (.inr h6)]
        · rw [if_neg h6,if_neg (by omega),if_neg (by omega)]
  rw [erec] at hg
  rw [show (1:Int)=((1:Nat):Int) from rfl]
  refine atc (by omega) (xset (h:=xget (h:=tag ?_)))
  refine xjoin1 (fun(i:Int) As'=>i=(j:Int)∧As'=[Blk b2 (RE.cells ⟨k,num8 xs 1,tg,0,0⟩),Blk b1 [.int .i64 0,.int .i64 0,.string ByteArray.empty,.int .i64 0,.int .i64 0]]) (fun K1 hK1=>xif (fun h=>?_) (fun h=>?_)) ?_
  · have hT':k=1∨k=2:=by simpa using h
    obtain ⟨l10,l18⟩:=hT hT'
    obtain ⟨y,hy⟩:∃ y,xs[9]? = some y:=⟨_,List.getElem?_eq_getElem (by omega)⟩
    have hyn:y.toNat=n9:=by rw [←h9,List.getD_eq_getElem?_getD,hy];rfl
    have hy8:=y.toNat_lt
    refine xidxn (E:=U8) (xs:=xs) (s:=b) (k:=9) (h1:=by omega) (h:=fun _ _=>xgetE (E:=U8) (xs:=xs) (x:=y) hy (h:=?_))
    have ew:IntKind.i64.wrap (10+IntKind.i64.wrap (y.toNat:Int))=((10+n9:Nat):Int):=by
      rw [wrap_id (y.toNat:Int) (by omega) (by omega),wrap_id _ (by omega) (by omega)];omega
    rw [ew]
    refine xslc (by omega) (by omega) (by omega) (by omega) ?_
    rw [show (10:Int).toNat=10 from rfl,Int.toNat_natCast,Int.toNat_natCast]
    have hcut:=hr.cut 10 (10+n9) b.c (by omega) (by omega) (by omega)
    have etk:(xs.take (10+n9)).drop 10=(xs.drop 10).take n9:=by rw [List.drop_take];congr 1;omega
    rw [etk] at hcut
    haveI:Fro B (b.cut 10 (10+n9) b.c 1) U8 ((xs.drop 10).take n9):=⟨hcut⟩
    obtain ⟨a,ha⟩:∃ a,(b.cut 10 (10+n9) b.c 1).p=some a:=by
      obtain ⟨_,_,hq⟩:=hr
      obtain ⟨bb,oo,_,_,_,_,hp,_⟩:=hq (by omega)
      unfold Sl.cut
      rw [hp]
      split
      · exact ⟨_,rfl⟩
      · exact ⟨_,rfl⟩
    refine xstr' (e:=T_uint8) ha (by kernel_rfl) (by kernel_rfl) (by kernel_rfl) (xset (h:=hK1 _ _ ⟨?_,?_⟩))
    · rw [hj,if_pos hT'] <;> rfl
    · rw [htg,if_pos hT'] <;> rfl
  · have hT':¬ (k=1∨k=2):=by simpa using h
    refine hK1 _ _ ⟨?_,?_⟩
    · rw [hj,if_neg hT'] <;> rfl
    · rw [htg,if_neg hT'] <;> rfl
  rintro (i:Int) _ ⟨rfl,rfl⟩
  refine xget (h:=nam ?_)
  refine xjoin1 (fun(i:Int) As'=>i=(j2:Int)∧As'=[Blk b2 (RE.cells ⟨k,num8 xs 1,tg,0,id'⟩),Blk b1 [.int .i64 0,.int .i64 0,.string ByteArray.empty,.int .i64 0,.int .i64 0]]) (fun K1 hK1=>xif (fun h=>?_) (fun h=>?_)) ?_
  · have hN:k=5∨k=6:=by simpa using h
    refine atc hjl (xset (h:=hK1 _ _ ⟨?_,?_⟩))
    · rw [wrap_id _ (by omega) (by omega),hj2,if_pos hN] <;> rfl
    · rw [hid,if_pos hN] <;> rfl
  · have hN:¬ (k=5∨k=6):=by simpa using h
    refine hK1 _ _ ⟨?_,?_⟩
    · rw [hj2,if_neg hN] <;> rfl
    · rw [hid,if_neg hN] <;> rfl
  rintro (i:Int) _ ⟨rfl,rfl⟩
  refine xget (h:=val ?_)
  refine xjoin0 (fun As'=>As'=[Blk b2 (RE.cells ⟨k,num8 xs 1,tg,vl,id'⟩),Blk b1 [.int .i64 0,.int .i64 0,.string ByteArray.empty,.int .i64 0,.int .i64 0]]) (fun K1 hK1=>xif (fun h=>?_) (fun h=>?_)) ?_
  · have hV:k≠5:=by simpa using h
    refine atc (hjl2 hV) (xset (h:=hK1 _ ?_))
    rw [hvl,if_pos hV] <;> rfl
  · have hV:¬ (k≠5):=by simpa using h
    refine hK1 _ ?_
    rw [hvl,if_neg hV] <;> rfl
  rintro _ rfl
  iterate 5 (refine xget (h:=?_))
  refine xcall0 (rCheck_spec ⟨k,num8 xs 1,tg,vl,id'⟩) rdb ?_
  rintro ⟨c,_⟩ _ ⟨hc,rfl⟩
  simp only at hc;subst hc
  refine app0 (ca1 (xif (fun h=>?_) (fun h=>?_)))
  · have h0:checkR ⟨k,num8 xs 1,tg,vl,id'⟩≠0:=by simpa using h
    rw [if_pos h0] at hg
    iterate 5 (refine xset (h:=?_))
    iterate 5 (refine xget (h:=?_))
    exact err h0 (by rw [hg];exact h0)
  · have h0:¬ checkR ⟨k,num8 xs 1,tg,vl,id'⟩≠0:=by simpa using h
    rw [if_neg h0] at hg
    iterate 5 (refine xget (h:=?_))
    iterate 5 (refine xset (h:=?_))
    iterate 5 (refine xget (h:=?_))
    refine xkeep (l:=[]) (xret ?_)
    unfold r11Post
    rw [hg]
    exact ⟨⟨⟨fun _=>rfl,fun _=>rfl⟩,fun _=>⟨rfl,rfl,rfl,rfl,rfl⟩⟩,rfl⟩
end Go.Cx
namespace Go.Cx
open Go Go.Cf
set_option linter.unusedVariables false
set_option maxRecDepth 100000
variable {B:Base}{As F:List HP}{α:Type}
theorem rNext14_spec (q p:Option Addr) (l:LM):Ct Pr F_ref14_Log_Next [.pointer q] .one [.int .i64] [RLogObj q p l] emp (fun t Bs=>t.1=l.next∧Bs=[RLogObj q p l]):=by
  refine spec1 (φ:=XCall Pr F_ref14_Log_Next [.pointer q] .one [.int .i64]) id fun B _=>?_
  refine xrlog 0 fun hi b n s cs hq hn hf hs=>?_
  subst hq
  refine xcl (rNext_raw b p n l s cs hs hf hi) rdb ?_
  rintro ⟨t,_⟩ _ ⟨ht,rfl⟩
  simp only at ht;subst ht
  refine app2 (ca1 ?_)
  refine xrlog_back (p:=p) (l:=l) b n s cs hi hn ?_
  exact xuse [RLogObj (some ⟨b,0,none⟩) p l] (xret ⟨rfl,rfl⟩)
theorem xrlo {q p:Option Addr}{l:LM}{F:List HP}{K:Int→WP}(h:Ent B (RLogObj q p l::F) (K l.lo)):Ent B (RLogObj q p l::F) (XNil q fun a=>XGet (.int .i64) (a.add 2) K):=by
  refine xrlog 0 fun hi b n s cs hq hn hf hs=>?_
  subst hq
  refine xnil (xget (h:=?_))
  exact xrlog_back (p:=p) (l:=l) b n s cs hi hn h
theorem xroff {p:Option Addr}{m:DM}{F:List HP}{K:Bool→WP}(h:Ent B (RefDev p m::F) (K m.down)):Ent B (RefDev p m::F) (XNil p fun a=>XGet .bool (a.add 2) K):=by
  refine xrdev 0 fun hi b s cs hp sf hn=>?_
  subst hp
  refine xnil (xget (h:=?_))
  exact xrdev_back b s cs hi h
theorem rxgot {s:Sl}{xs:List UInt8}{F:List HP}{K:Int→Int→ByteArray→Int→Int→Int→WP}(hl:xs.length≤1000000)
    (h0:(getM xs).2=0→Ent B (Ar U8 s xs::F) (K (getM xs).1.kind (getM xs).1.time (getM xs).1.tag (getM xs).1.val (getM xs).1.id 0))
    (h1:(getM xs).2≠0→∀ a0 a1 a2 a3 a4 e,e≠0→Ent B (Ar U8 s xs::F) (K a0 a1 a2 a3 a4 e)) :
    Ent B (Ar U8 s xs::F) (XCall Pr F_ref11_Get [s.v] (.tup [some 5,none]) [.int .i64,.int .i64,.str,.int .i64,.int .i64,.int .i64] K):=by
  refine xlen (E:=U8) (xs:=xs) s fun _ hc=>?_
  refine xcall0 (rGet11_spec s xs hc (by omega)) rdb ?_
  rintro ⟨k,t,g,v,i,e,_⟩ _ ⟨⟨h2,h3⟩,rfl⟩
  simp only at h2 h3
  by_cases hz:(getM xs).2=0
  · obtain ⟨rfl,rfl,rfl,rfl,rfl⟩:=h3 hz
    obtain rfl:=h2.2 hz
    exact h0 hz
  · exact h1 hz _ _ _ _ _ _ fun e=>hz (h2.1 e)
theorem rinv0:RInv xm0:=⟨List.Pairwise.nil,fun y hy=>by simp at hy,.inl ⟨rfl,rfl⟩,by simp⟩
theorem openTo_rinv (l:LM) (h0:0≤l.lo):∀ k:Nat,k≤100000→RInv (openTo l k)∧(openTo l k).last<l.lo+k
  | 0,_=>⟨rinv0,by show (-1:Int)<_;omega⟩
  | k+1,hk=>by
    obtain ⟨h1,h2⟩:=openTo_rinv l h0 k (by omega)
    have hl:=openTo_len l k
    rw [openTo_succ]
    unfold stepX
    split
    · refine ⟨(rinv_put h1 (by omega) h2 (by omega)).1,?_⟩
      show (if l.lo+(k:Int)>(openTo l k).last then l.lo+(k:Int) else _)<_
      rw [if_pos h2];omega
    · exact ⟨h1,by omega⟩
theorem rOpen16_spec (d l:Option Addr) (m:DM) (lm:LM) (hd:m.down=false) (ha:m.armed=false) (hT:lm.next - lm.lo≤100000):Ct Pr F_ref16_Open [.pointer d,.pointer l] (.tup [none,none]) [.ptr,.int .i64] [RefDev d m,RLogObj l d lm] emp
    (fun t Bs=>t.2.1=0∧Bs=[RefDev d (dropM m idxNew).1,RLogObj l d lm,RIdxObj t.1 d l (openX lm)]):=by
  refine spec2 c_ref16_Open fun B _=>?_
  unfold ref16_Open
  refine xfact 1 (P1:=RLogObj l d lm) (fun g hg=>hg.1) fun hi=>?_
  have hnx:=hi.next
  have hlo:=hi.lo
  refine xroff (xiff hd ?_)
  refine xcl (rFind_spec d m _) rdb ?_
  rintro ⟨t,_⟩ _ ⟨ht,rfl⟩
  simp only at ht;subst ht
  refine app1 (ca1 ?_)
  refine xjoin1 (fun(c:Bool) As'=>c=false∧As'=[RefDev d (dropM m idxNew).1,RLogObj l d lm]) (fun K1 hK1=>?_) ?_
  · have hdr:=drop_up (m:=m) idxNew hd ha
    cases ht:thereL m.fs idxNew.toList with
    | true=>
      refine xift (by rw [fIdx_yes ht];simp) ?_
      refine xcl (rRemove_spec d m _) rdb ?_
      rintro ⟨t,_⟩ _ ⟨ht2,rfl⟩
      simp only at ht2;subst ht2
      rw [drop_there hd ht] at hdr hK1
      exact app1 (ca1 (hK1 _ _ ⟨by show ((removeM m idxNew).2 != 0)=false;rw [hdr];rfl,rfl⟩))
    | false=>
      refine xiff (by rw [fIdx_no ht];rfl) ?_
      rw [drop_none hd ht] at hK1
      exact hK1 _ _ ⟨rfl,rfl⟩
  rintro c _ ⟨rfl,rfl⟩
  refine xiff rfl (xnew fun b=>?_)
  refine xnone KE ?_
  refine xfold [Blk b [.pointer d,.pointer l,.slice none 0 0],Ar KE ⟨none,0,0⟩ []] (RIdxObj (some ⟨b,0,none⟩) d l xm0) (fun g hg=>⟨rinv0,b,⟨none,0,0⟩,rfl,hg⟩) ?_
  refine xuse [RLogObj l d lm,RefDev d (dropM m idxNew).1,RIdxObj (some ⟨b,0,none⟩) d l xm0] ?_
  refine xrlo ?_
  refine xloop1 (fun n (x:Int) As'=>∃ k:Nat,x=lm.lo+k∧n=(lm.next - lm.lo).toNat - k∧k≤(lm.next - lm.lo).toNat∧As'=[RLogObj l d lm,RefDev d (dropM m idxNew).1,RIdxObj (some ⟨b,0,none⟩) d l (openTo lm k)]) (lm.next - lm.lo).toNat ⟨0,by simp,rfl,by omega,rfl⟩ ?_
  rintro n x As' K ⟨k,rfl,rfl,hk,rfl⟩ hK
  refine xcl (rNext14_spec l d lm) rdb ?_
  rintro ⟨t,_⟩ _ ⟨ht,rfl⟩
  simp only at ht;subst ht
  refine app1 (ca1 (xif_dec (fun h1=>?_) (fun h1=>?_)))
  · refine xcl (rGet14_spec l d lm (lm.lo+k)) rdb ?_
    rintro ⟨s,e,_⟩ _ ⟨_,rfl⟩
    obtain ⟨o1,o2⟩:=openTo_rinv lm hlo.1 k (by omega)
    have hlen:=openTo_len lm k
    refine app2 (ca2 (xfront 1 ?_))
    have fin:∀ {As2 G:List HP} [Split [RLogObj l d lm,RefDev d (dropM m idxNew).1,RIdxObj (some ⟨b,0,none⟩) d l (openTo lm (k+1))] As2 G],Ent B As2 (K (IntKind.i64.wrap (lm.lo+(k:Int)+1))):=by
      intro As2 G _
      rw [wrap_id _ (by omega) (by omega)]
      exact xuse [RLogObj l d lm,RefDev d (dropM m idxNew).1,RIdxObj (some ⟨b,0,none⟩) d l (openTo lm (k+1))] (hK ((lm.next - lm.lo).toNat - (k+1)) _ _ (by omega) ⟨k+1,by omega,rfl,by omega,rfl⟩)
    refine rxgot (by have:=getL_len hi (lm.lo+k);omega) (fun hz=>xnew fun b1=>?_) (fun hz a0 a1 a2 a3 a4 e he=>xnew fun b1=>?_)
    · iterate 5 (refine xset (h:=?_))
      have e0:openTo lm (k+1)=putX (openTo lm k) (getM (getL lm (lm.lo+k)).1).1.time (lm.lo+k):=by rw [openTo_succ];unfold stepX;rw [if_pos hz]
      refine xjoin (xift rfl (xget (h:=?_)))
      refine xcl (rPut16_spec (some ⟨b,0,none⟩) d l (openTo lm k) _ _ (by omega) o2 (by omega)) rdb ?_
      rintro _ _ rfl
      rw [←e0]
      exact app1 (ca0 fin)
    · iterate 5 (refine xset (h:=?_))
      have e0:openTo lm (k+1)=openTo lm k:=by rw [openTo_succ];unfold stepX;rw [if_neg hz]
      refine xjoin (xiff (by simpa using he) ?_)
      rw [←e0]
      exact fin
  · have e:k=(lm.next - lm.lo).toNat:=by omega
    have e2:openTo lm k=openX lm:=by rw [e];rfl
    rw [e2]
    exact xuse [RefDev d (dropM m idxNew).1,RLogObj l d lm,RIdxObj (some ⟨b,0,none⟩) d l (openX lm)] (xret ⟨rfl,rfl⟩)
end Go.Cx
namespace Go.Cx
open Go Go.Cf
set_option linter.unusedVariables false
set_option maxRecDepth 100000
variable {B:Base}{As F:List HP}{α:Type}
theorem curN_of (gs:List (List (List UInt8))) (safe:Int):(logOf gs safe).curN≤gs.length+1:=by
  unfold LM.curN LM.cur
  rcases List.eq_nil_or_concat gs with rfl | ⟨hs,g,rfl⟩
  · show (1:Int)≤_;simp
  · rw [List.concat_eq_append]
    simp only
    rw [segsFrom_last]
    simp;omega
theorem segs_nil {gs:List (List (List UInt8))}{safe:Nat}(h:safe≤gs.flatten.length):(logOf gs safe).segs=[]→(logOf gs safe).safe=(logOf gs safe).next:=by
  intro e
  have e1:gs.length=0:=by rw [←segsFrom_len gs 1 0];exact congrArg List.length e
  obtain rfl:=List.eq_nil_of_length_eq_zero e1
  rw [next_of]
  show (safe:Int)=_
  simp at h ⊢
  exact h
theorem said26_spec (s0:Sl) (rs:List Sl) (ps:List (List UInt8)) (to:Int) (s2:Sl) (ys:List KY) (hps:ps.length≤1000) (hys:ys.length≤1000) :
    Ct Pr F_law26_said [.agg #[s0.v,.int .i64 to,s2.v]] (.tup [none,none]) [.ptr,.ptr] [] ((RowsAt s0 rs ps).and (RAr KE s2 ys))
      (fun t Bs=>∃ d m,Bs=[RefDev d m,RLogObj t.1 d (trimL (laidL ps).1 (laidL ps).2 to 1).2.1,RIdxObj t.2.1 d t.1 (addAll (openX (trimL (laidL ps).1 (laidL ps).2 to 1).2.1) ys)]):=by
  refine spec2 c_law26_said fun B hr=>?_
  obtain ⟨⟨ha0,hl,hrow⟩,hadd⟩:=hr
  haveI:Fro B s0 SL rs:=⟨ha0⟩
  haveI:Fro B s2 KE ys:=⟨hadd⟩
  have h1:=ha0.1
  have h2:=hadd.1
  unfold law26_said
  refine xnew fun bs=>?_
  refine xcall0 (rNew_spec 1048576) rdb ?_
  rintro ⟨q,r,_⟩ _ (⟨h,_⟩ | ⟨_,_,h3,⟨b,h4⟩,rfl⟩)
  · omega
  simp only at h3 h4;subst h3 h4
  refine app1 (ca2 ?_)
  refine xcl (rOpen14_new (some ⟨b,0,none⟩)) rdb ?_
  rintro ⟨q1,r1,_⟩ _ ⟨h5,⟨b1,h6⟩,rfl⟩
  simp only at h5 h6;subst h5 h6
  refine app2 (ca2 ?_)
  refine xloop1 (fun n (x:Int) As'=>∃ k:Nat,x=(k:Int)∧n=rs.length - k∧k≤rs.length∧As'=[RLogObj (some ⟨b1,0,none⟩) (some ⟨b,0,none⟩) (fill0 (ps.take k)).2,RefDev (some ⟨b,0,none⟩) (fill0 (ps.take k)).1,Blk bs [s0.v,.int .i64 to,s2.v]]) rs.length ⟨0,rfl,rfl,by omega,rfl⟩ ?_
  rintro n x As' K ⟨k,rfl,rfl,hk,rfl⟩ hK
  have htl:(ps.take k).length≤ps.length:=by simp;omega
  obtain ⟨gs,safe,f1,f2,f3,f4,f5⟩:=fill_rel (ps.take k) (by omega)
  refine xget (h:=xif_dec (fun h=>?_) (fun h=>?_))
  · have hlt:k<rs.length:=by omega
    obtain ⟨y,hy⟩:∃ y,ps[k]? = some y:=⟨_,List.getElem?_eq_getElem (by omega)⟩
    refine xget (h:=?_)
    refine xidxn (E:=SL) (xs:=rs) (s:=s0) (h1:=hlt) (h:=fun r hr=>?_)
    haveI:Fro B r U8 y:=⟨hrow k r y hr hy⟩
    refine xgetE (E:=SL) (xs:=rs) hr (h:=?_)
    have hgl:=fill_rel (ps.take (k+1)) (by simp;omega)
    have etake:ps.take (k+1)=ps.take k++[y]:=by rw [List.take_add_one,hy];rfl
    have e6:fill0 (ps.take (k+1))=((appendL (fill0 (ps.take k)).1 (fill0 (ps.take k)).2 y).1,(appendL (fill0 (ps.take k)).1 (fill0 (ps.take k)).2 y).2.1):=by rw [etake];exact fill_snoc _ _ _
    obtain ⟨gs2,safe2,g1,g2,g3,_⟩:=hgl
    have htl2:(ps.take (k+1)).length≤ps.length:=by simp;omega
    have hcn:(fill0 (ps.take k)).2.curN≤999999999999:=by
      have hc:=curN_of gs safe
      have hf:=f2.few
      rw [f1];omega
    refine xcl (rAppend14_spec (some ⟨b1,0,none⟩) (some ⟨b,0,none⟩) (fill0 (ps.take k)).1 (fill0 (ps.take k)).2 r y (by rw [f1];exact segs_nil f2.total) hcn ?_) rdb ?_
    · have:(appendL (fill0 (ps.take k)).1 (fill0 (ps.take k)).2 y).2.1=(fill0 (ps.take (k+1))).2:=by rw [e6]
      rw [this,g1]
      exact g2.linv (by omega)
    rintro ⟨t,t1,_⟩ _ ⟨_,_,rfl⟩
    refine app2 (ca2 ?_)
    rw [wrap_succ k (by omega)]
    refine hK _ _ _ (by omega) ⟨k+1,rfl,rfl,by omega,?_⟩
    rw [e6]
  · have hk:k=ps.length:=by omega
    have e:ps.take k=ps:=List.take_of_length_le (by omega)
    rw [e] at f1 f2 f3 f4 f5 ⊢
    refine xcl (rSync14_spec (some ⟨b1,0,none⟩) (some ⟨b,0,none⟩) (fill0 ps).1 (fill0 ps).2 (by rw [f1];exact segs_nil f2.total)) rdb ?_
    rintro ⟨t,_⟩ _ ⟨_,rfl⟩
    refine app2 (ca1 (xget (h:=?_)))
    obtain ⟨gs2,safe2,g1,g2,g3,g4,g5⟩:=laidL_rel ps (by omega)
    have hcalm:calm (trimL (laidL ps).1 (laidL ps).2 to 1).1:=trim_calm ⟨g4,g5⟩ _ _ _
    have hnx:(trimL (laidL ps).1 (laidL ps).2 to 1).2.1.next=gs2.flatten.length:=by rw [trim_next,g1,next_of]
    have hlinv0:LInv (laidL ps).2:=by rw [g1];exact g2.linv (by omega)
    have hi:LInv (trimL (laidL ps).1 (laidL ps).2 to 1).2.1:=trim_inv hlinv0 _ _ _
    have hlo:=hi.lo
    refine xcl (pre:=[RLogObj (some ⟨b1,0,none⟩) (some ⟨b,0,none⟩) (laidL ps).2,RefDev (some ⟨b,0,none⟩) (laidL ps).1]) (rTrim14_spec (some ⟨b1,0,none⟩) (some ⟨b,0,none⟩) (laidL ps).1 (laidL ps).2 to) rdb ?_
    rintro ⟨t,_⟩ _ rfl
    refine app2 (ca1 ?_)
    generalize (trimL (laidL ps).1 (laidL ps).2 to 1).1=m1 at *
    generalize (trimL (laidL ps).1 (laidL ps).2 to 1).2.1=lg at *
    refine xcl (rOpen16_spec (some ⟨b,0,none⟩) (some ⟨b1,0,none⟩) m1 lg hcalm.2 hcalm.1 (by omega)) rdb ?_
    rintro ⟨q2,r4,_⟩ _ ⟨_,rfl⟩
    refine app3 (ca2 ?_)
    simp only
    have hol:=openTo_len lg (lg.next - lg.lo).toNat
    have hol2:(openX lg).L.length≤100000:=by unfold openX;omega
    refine xuse [RefDev (some ⟨b,0,none⟩) (dropM m1 idxNew).1,RLogObj (some ⟨b1,0,none⟩) (some ⟨b,0,none⟩) lg,RIdxObj q2 (some ⟨b,0,none⟩) (some ⟨b1,0,none⟩) (openX lg),Blk bs [s0.v,.int .i64 to,s2.v]] ?_
    refine xloop1 (fun n (x:Int) As'=>∃ k:Nat,x=(k:Int)∧n=ys.length - k∧k≤ys.length∧As'=[RefDev (some ⟨b,0,none⟩) (dropM m1 idxNew).1,RLogObj (some ⟨b1,0,none⟩) (some ⟨b,0,none⟩) lg,RIdxObj q2 (some ⟨b,0,none⟩) (some ⟨b1,0,none⟩) (addAll (openX lg) (ys.take k)),Blk bs [s0.v,.int .i64 to,s2.v]]) ys.length ⟨0,rfl,rfl,by omega,rfl⟩ ?_
    rintro n x As' K ⟨k2,rfl,rfl,hk2,rfl⟩ hK
    refine xget (h:=xif_dec (fun h=>?_) (fun h=>?_))
    · have hlt:k2<ys.length:=by omega
      have hy:=List.getElem?_eq_getElem hlt
      refine xdraw (xget (h:=?_))
      refine xidxn (E:=KE) (xs:=ys) (s:=s2) (h1:=hlt) (h:=fun _ _=>?_)
      refine xgetE (E:=KE) (xs:=ys) hy (h:=xget (h:=?_))
      refine xidxn (E:=KE) (xs:=ys) (s:=s2) (h1:=hlt) (h:=fun _ _=>?_)
      refine xgetEj (E:=KE) (xs:=ys) hy (h:=?_)
      have hal:=addAll_len (ys.take k2) (openX lg)
      have hal2:(ys.take k2).length≤ys.length:=by simp;omega
      refine xcl (rAdd16_spec q2 (some ⟨b,0,none⟩) (some ⟨b1,0,none⟩) (addAll (openX lg) (ys.take k2)) ys[k2] (by omega)) rdb ?_
      rintro ⟨t,_⟩ _ rfl
      refine app1 (ca1 ?_)
      have e9:addX (addAll (openX lg) (ys.take k2)) ys[k2]=addAll (openX lg) (ys.take (k2+1)):=by
        rw [List.take_add_one,hy];exact (addAll_snoc _ _ _).symm
      rw [e9,wrap_succ k2 (by omega)]
      exact xuse' (hK (ys.length - (k2+1)) _ _ (by omega) ⟨k2+1,rfl,rfl,by omega,rfl⟩)
    · rw [List.take_of_length_le (l:=ys) (by omega)]
      exact xuse [RefDev (some ⟨b,0,none⟩) (dropM m1 idxNew).1,RLogObj (some ⟨b1,0,none⟩) (some ⟨b,0,none⟩) lg,RIdxObj q2 (some ⟨b,0,none⟩) (some ⟨b1,0,none⟩) (addAll (openX lg) ys)] (xret ⟨_,_,rfl⟩)
theorem rRec26_spec (q p:Option Addr) (lg:LM) (n:Int):Ct Pr F_ref26_Record [.pointer q,.int .i64 n] (.tup [some 5,none]) [.int .i64,.int .i64,.str,.int .i64,.int .i64,.bool] [RLogObj q p lg] emp
    (fun t Bs=>t.2.2.2.2.2.1=(recAtM lg n).2∧((recAtM lg n).2=true→t.1=(recAtM lg n).1.kind∧t.2.1=(recAtM lg n).1.time∧t.2.2.1=(recAtM lg n).1.tag∧t.2.2.2.1=(recAtM lg n).1.val∧t.2.2.2.2.1=(recAtM lg n).1.id)∧Bs=[RLogObj q p lg]):=by
  refine spec_gen (ss:=[.int .i64,.int .i64,.str,.int .i64,.int .i64,.bool]) c_ref26_Record fun B _=>?_
  show Ent B [RLogObj q p lg] (ref26_Record q n fun a b c d e f=>Ret B (ss:=[.int .i64,.int .i64,.str,.int .i64,.int .i64,.bool]) (fun t Bs=>t.2.2.2.2.2.1=(recAtM lg n).2∧((recAtM lg n).2=true→t.1=(recAtM lg n).1.kind∧t.2.1=(recAtM lg n).1.time∧t.2.2.1=(recAtM lg n).1.tag∧t.2.2.2.1=(recAtM lg n).1.val∧t.2.2.2.2.1=(recAtM lg n).1.id)∧Bs=[RLogObj q p lg]) (a,b,c,d,e,f,()))
  unfold ref26_Record
  refine xfact 0 (P1:=RLogObj q p lg) (fun g hg=>hg.1) fun hi=>?_
  refine xnew fun b=>?_
  refine xcl (rGet14_spec q p lg n) rdb ?_
  rintro ⟨s,e,_⟩ _ ⟨he,rfl⟩
  simp only at he;subst he
  have hlen:=getL_len hi n
  refine app2 (ca2 (xif (fun h=>?_) (fun h=>?_)))
  · have em:recAtM lg n=(rec0,false):=by unfold recAtM;rw [if_pos (by simpa using h)]
    iterate 5 (refine xset (h:=?_))
    iterate 5 (refine xget (h:=?_))
    exact xuse [RLogObj q p lg] (xret ⟨by rw [em],fun e=>by (rw [em] at e;cases e),rfl⟩)
  · have em:recAtM lg n=((getM (getL lg n).1).1,(getM (getL lg n).1).2 == 0):=by unfold recAtM;rw [if_neg (by simpa using h)]
    refine xfront 1 (rxgot (by omega) (fun hz=>xnew fun b1=>?_) (fun hz a0 a1 a2 a3 a4 e he=>xnew fun b1=>?_))
    · iterate 5 (refine xset (h:=?_))
      iterate 5 (refine xget (h:=?_))
      iterate 5 (refine xset (h:=?_))
      iterate 5 (refine xget (h:=?_))
      exact xuse [RLogObj q p lg] (xret ⟨by rw [em,hz] <;> rfl,fun _=>by rw [em];exact ⟨rfl,rfl,rfl,rfl,rfl⟩,rfl⟩)
    · iterate 5 (refine xset (h:=?_))
      iterate 5 (refine xget (h:=?_))
      iterate 5 (refine xset (h:=?_))
      iterate 5 (refine xget (h:=?_))
      have ef:((getM (getL lg n).1).2 == 0)=false:=by simpa using hz
      exact xuse [RLogObj q p lg] (xret ⟨by rw [em,ef];simpa using he,fun e=>by (rw [em,ef] at e;cases e),rfl⟩)
theorem rGone26_spec (q p:Option Addr) (lg:LM) (from':Int):Ct Pr F_ref26_Gone [.pointer q,.int .i64 from'] .one [.bool] [RLogObj q p lg] emp (fun t Bs=>t.1=goneB lg from'∧Bs=[RLogObj q p lg]):=by
  refine spec1 c_ref26_Gone fun B _=>?_
  unfold ref26_Gone
  refine xfact 0 (P1:=RLogObj q p lg) (fun g hg=>hg.1) fun hi=>?_
  have hlo:=hi.lo
  have hnx:=hi.next
  refine xrlo (xif (fun h=>xret ⟨?_,rfl⟩) (fun h=>?_))
  · unfold goneB;rw [if_pos (eq_of_beq h)]
  have eg:goneB lg from'=goneR lg from' (lg.next - lg.lo).toNat lg.lo:=by unfold goneB;rw [if_neg (by simpa using h)]
  rw [eg]
  refine xrlo ?_
  refine xloop1 (fun m (x:Int) As'=>lg.lo≤x∧(x≤lg.next∨x=lg.lo)∧m=(lg.next - x).toNat∧goneR lg from' (lg.next - x).toNat x=goneR lg from' (lg.next - lg.lo).toNat lg.lo∧As'=[RLogObj q p lg]) (lg.next - lg.lo).toNat ⟨by omega,.inr rfl,rfl,rfl,rfl⟩ ?_
  rintro m x As' K ⟨h1,h2,rfl,h3,rfl⟩ hK
  refine xcl (rNext14_spec q p lg) rdb ?_
  rintro ⟨t,_⟩ _ ⟨ht,rfl⟩
  simp only at ht;subst ht
  refine app1 (ca1 (xif_dec (fun h4=>?_) (fun h4=>?_)))
  · obtain ⟨k,hk⟩:∃ k,(lg.next - x).toNat=k+1:=⟨(lg.next - x).toNat - 1,by omega⟩
    have hk2:(lg.next - (x+1)).toNat=k:=by omega
    refine xcl (rRec26_spec q p lg x) rdb ?_
    rintro ⟨r1,r2,r3,r4,r5,c,_⟩ _ ⟨hc,hf,rfl⟩
    simp only at hc hf;subst hc
    refine app1 (ca6 (xnew fun b=>?_))
    iterate 5 (refine xset (h:=?_))
    rw [hk,goneR] at h3
    refine xif (fun h5=>?_) (fun h5=>?_)
    · rw [if_pos h5] at h3
      obtain ⟨rfl,rfl,rfl,rfl,rfl⟩:=hf h5
      refine xget (h:=xuse [RLogObj q p lg] (xret ⟨h3,rfl⟩))
    · rw [if_neg (by rw [h5];simp)] at h3
      rw [wrap_id _ (by omega) (by omega)]
      exact xuse [RLogObj q p lg] (hK k _ _ (by omega) ⟨by omega,.inl (by omega),hk2.symm,by rw [hk2];exact h3,rfl⟩)
  · have hk:(lg.next - x).toNat=0:=by omega
    rw [hk,goneR] at h3
    exact xret ⟨h3,rfl⟩
end Go.Cx
