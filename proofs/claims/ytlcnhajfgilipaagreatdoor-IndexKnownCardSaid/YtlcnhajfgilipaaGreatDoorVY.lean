/-
  The document's index: a list in order; what lies in a span.
  The document's index: an entry put into its place; Add.
  The document's record: a number in eight bytes; how long a record is.
  A record that is read, by its length.
  The document's record: Get.
  The document's index is opened; a store of the document's.
  The document's log opened on any device.
  The document's log read segment by segment; opened.
  The document's log opened on any device.
-/
import Derived.Test.YtlcnhajfgilipaaGreatDoorVX
import Derived.Test.YtlcnhajfgilipaaGreatDoorR1
import Derived.Test.YtlcnhajfgilipaaGreatDoorHY
namespace Go.Cx
open Go Go.Cf
set_option linter.unusedVariables false
set_option maxRecDepth 100000
variable {B:Base}{As F:List HP}{α:Type}
structure RInv (m:XM):Prop where
  srt:SrtK m.L
  top:∀ y∈m.L,0≤y.2∧y.2≤m.last
  last:(m.L=[]∧m.last = -1)∨∃ y∈m.L,y.2=m.last
  len:m.L.length≤1000000
def RIdxObj (x d l:Option Addr) (m:XM):HP:=fun h=>RInv m∧∃ b s,x=some ⟨b,0,none⟩∧star [Blk b [.pointer d,.pointer l,s.v],Ar KE s m.L] h
theorem xridx (i:Nat) {x d l:Option Addr}{m:XM}{F:List HP} [r:Pick i As (RIdxObj x d l m) F] {φ:WP}
    (k:RInv m→∀ b s,x=some ⟨b,0,none⟩→Ent B (Blk b [.pointer d,.pointer l,s.v]::Ar KE s m.L::F) φ):Ent B As φ:=by
  refine Ent.perm r.perm ?_
  intro w hw
  obtain ⟨g,⟨a,c,⟨hi,b,s,hp,pa⟩,pc,d',sa,sc⟩,hm,hu⟩:=hw
  exact k hi b s hp w ⟨g,(star_append [_,_] F).2 ⟨a,c,pa,pc,d',sa,sc⟩,hm,hu⟩
theorem xridx_back (b:Nat) (s:Sl) {d l:Option Addr}{m:XM}{G:List HP} [q:Split [Blk b [.pointer d,.pointer l,s.v],Ar KE s m.L] As G] {φ:WP}
    (hi:RInv m) (k:Ent B (RIdxObj (some ⟨b,0,none⟩) d l m::G) φ):Ent B As φ:=
  xfold [Blk b [.pointer d,.pointer l,s.v],Ar KE s m.L] (RIdxObj (some ⟨b,0,none⟩) d l m) (fun g hg=>⟨hi,b,s,rfl,hg⟩) k
def rngL (L:List KY) (a b floor:Int):List Int:=selK floor (rngK (a,0) (b,0) L)
theorem rngL_snoc (L:List KY) (y:KY) (a b floor:Int) (h0:0≤y.2):rngL (L++[y]) a b floor=rngL L a b floor++(if y.1≥a∧y.1<b∧y.2≥floor then [y.2] else []):=by
  have h1:(!(ltK y (a,0))&&ltK y (b,0))=decide (y.1≥a∧y.1<b):=by
    unfold ltK
    rw [Bool.eq_iff_iff]
    simp
    omega
  unfold rngL rngK selK
  rw [List.filter_append,List.filter_append,List.map_append]
  congr 1
  simp only [List.filter_cons,List.filter_nil,h1]
  by_cases h2:y.1≥a∧y.1<b
  · by_cases h3:y.2≥floor
    · rw [if_pos (by simpa using h2),if_pos ⟨h2.1,h2.2,h3⟩];simp [h3]
    · rw [if_pos (by simpa using h2),if_neg (fun e=>h3 e.2.2)];simp [h3]
  · rw [if_neg (by simpa using h2),if_neg (fun e=>h2 ⟨e.1,e.2.1⟩)];simp
theorem rRange_spec (x d l:Option Addr) (m:XM) (a b floor:Int):Ct Pr F_ref16_Index_Range [.pointer x,.int .i64 a,.int .i64 b,.int .i64 floor] .one [.slice] [RIdxObj x d l m] emp
    (fun t Bs=>Bs=[RIdxObj x d l m,Ar I64 t.1 (rngX m a b floor)]):=by
  refine spec1 c_ref16_Index_Range fun B _=>?_
  unfold ref16_Index_Range
  refine xridx 0 fun hi bx s hx=>?_
  subst hx
  have hlen:=hi.len
  refine xlen (E:=KE) (xs:=m.L) s fun hsn _=>?_
  refine xnone I64 ?_
  refine xuse [Blk bx [.pointer d,.pointer l,s.v],Ar KE s m.L,Ar I64 ⟨none,0,0⟩ []] ?_
  refine xloop2 (fun n (out:Sl) (z:Int) As'=>∃ k:Nat,z=(k:Int)∧n=m.L.length - k∧k≤m.L.length∧As'=[Blk bx [.pointer d,.pointer l,s.v],Ar KE s m.L,Ar I64 out (rngL (m.L.take k) a b floor)]) m.L.length ⟨0,rfl,rfl,by omega,by simp [rngL,rngK,selK]⟩ ?_
  rintro n out _ _ K ⟨k,rfl,rfl,hk,rfl⟩ hK
  refine xnil (xget (h:=xif_dec (fun hlt=>?_) (fun hlt=>?_)))
  · have hkl:k<m.L.length:=by omega
    obtain ⟨⟨t,q⟩,hy⟩:∃ y,m.L[k]? = some y:=⟨_,List.getElem?_eq_getElem hkl⟩
    have hq:=hi.top _ (List.mem_of_getElem? hy)
    have etake:m.L.take (k+1)=m.L.take k++[(t,q)]:=by rw [List.take_add_one,hy];rfl
    have hsn':=rngL_snoc (m.L.take k) (t,q) a b floor hq.1
    rw [←etake] at hsn'
    have hl2:(rngL (m.L.take k) a b floor).length≤1000000:=by
      unfold rngL selK rngK
      rw [List.length_map]
      refine Nat.le_trans (List.length_filter_le _ _) (Nat.le_trans (List.length_filter_le _ _) ?_)
      rw [List.length_take];omega
    have fin:∀ (out2:Sl) (bb:Nat),Ent B [Blk bx [.pointer d,.pointer l,s.v],Ar KE s m.L,Ar I64 out2 (rngL (m.L.take (k+1)) a b floor)] (K out2 (IntKind.i64.wrap ((k:Int)+1))):=fun out2 _=>by
      rw [wrap_succ k (by omega)]
      exact hK (m.L.length - (k+1)) _ _ _ (by omega) ⟨k+1,rfl,rfl,by omega,rfl⟩
    refine xnil (xget (h:=?_))
    refine xidxn (E:=KE) (xs:=m.L) (s:=s) (h1:=hkl) (h:=fun _ _=>?_)
    refine xgetE (E:=KE) (xs:=m.L) hy (h:=?_)
    refine xgetEj (E:=KE) (xs:=m.L) hy (h:=?_)
    dsimp only
    refine xnew fun bb=>?_
    iterate 2 (refine xset (h:=?_))
    refine xget (h:=?_)
    refine xjoin1 (fun(c:Bool) As'=>c=decide (t≥a∧t<b)∧As'=[Blk bb [.int .i64 t,.int .i64 q],Blk bx [.pointer d,.pointer l,s.v],Ar KE s m.L,Ar I64 out (rngL (m.L.take k) a b floor)]) (fun K1 hK1=>xif_dec (fun h=>xget (h:=hK1 _ _ ⟨by simp [h],rfl⟩)) (fun h=>hK1 _ _ ⟨by simp [h],rfl⟩)) ?_
    rintro c _ ⟨rfl,rfl⟩
    refine xjoin1 (fun(c:Bool) As'=>c=decide (t≥a∧t<b∧q≥floor)∧As'=[Blk bb [.int .i64 t,.int .i64 q],Blk bx [.pointer d,.pointer l,s.v],Ar KE s m.L,Ar I64 out (rngL (m.L.take k) a b floor)]) (fun K1 hK1=>xif_dec (fun h=>xget (h:=hK1 _ _ ⟨by simp [h],rfl⟩)) (fun h=>hK1 _ _ ⟨by rw [Bool.eq_iff_iff];simp;omega,rfl⟩)) ?_
    rintro c _ ⟨rfl,rfl⟩
    refine xjoin (xif_dec (fun h=>?_) (fun h=>?_))
    · refine xget (h:=xnew fun b1=>?_)
      refine xapp1 (E:=I64) q (hb:=by omega) (h:=fun s2=>?_)
      rw [if_pos h] at hsn'
      rw [←hsn']
      exact xuse' (fin s2 b1)
    · rw [if_neg h,List.append_nil] at hsn'
      rw [←hsn']
      exact xuse' (fin out bb)
  · rw [List.take_of_length_le (by omega)]
    refine xridx_back (d:=d) (l:=l) (m:=m) bx s hi ?_
    exact xuse [RIdxObj (some ⟨bx,0,none⟩) d l m,Ar I64 out (rngL m.L a b floor)] (xret rfl)
end Go.Cx
namespace Go.Cx
open Go Go.Cf
set_option linter.unusedVariables false
set_option maxRecDepth 100000
variable {B:Base}{As F:List HP}{α:Type}
theorem ltK_spec (a b:KY):ltK a b=true↔a.1<b.1∨(a.1=b.1∧a.2<b.2):=by
  unfold ltK;simp
theorem srt_at {k:KY}:∀ {L:List KY},SrtK L→k∉L→∃ i,i≤L.length∧(∀ y∈L.take i,ltK y k=true)∧(∀ y∈L.drop i,ltK k y=true)
  | [],_,_=>⟨0,by simp,by simp,by simp⟩
  | x::L,hs,hk=>by
    obtain ⟨h1,h2⟩:=List.pairwise_cons.1 hs
    have hne:k≠x:=fun e=>hk (by rw [e];simp)
    have hne2:¬ (k.1=x.1∧k.2=x.2):=fun e=>hne (Prod.ext e.1 e.2)
    cases hx:ltK x k with
    | true=>
      obtain ⟨i,g1,g2,g3⟩:=srt_at h2 (fun e=>hk (List.mem_cons_of_mem _ e))
      refine ⟨i+1,by simp;omega,fun y hy=>?_,by simpa using g3⟩
      rw [List.take_succ_cons] at hy
      rcases List.mem_cons.1 hy with rfl | hy
      · exact hx
      · exact g2 y hy
    | false=>
      have hkx:ltK k x=true:=by
        have:=mt (ltK_spec x k).2 (by rw [hx];simp)
        rw [ltK_spec];omega
      refine ⟨0,by simp,by simp,fun y hy=>?_⟩
      rw [List.drop_zero] at hy
      rcases List.mem_cons.1 hy with rfl | hy
      · exact hkx
      · have:=(ltK_spec _ _).1 (h1 y hy)
        rw [ltK_spec] at hkx ⊢
        omega
theorem rPut16_raw (bx:Nat) (d l:Option Addr) (s:Sl) (L:List KY) (k:KY) (hs:SrtK L) (hk:k∉L) (hl:L.length≤1000000):Ct Pr F_ref16_Index_put [.pointer (some ⟨bx,0,none⟩),.agg #[.int .i64 k.1,.int .i64 k.2]] (.tup []) [] [Blk bx [.pointer d,.pointer l,s.v],Ar KE s L] emp
    (fun _ Bs=>∃ s':Sl,Bs=[Blk bx [.pointer d,.pointer l,s'.v],Ar KE s' (insK k L)]):=by
  refine spec0 c_ref16_Index_put fun B _=>?_
  obtain ⟨a,a1,a2,a3⟩:=srt_at hs hk
  have hins:=ins_at a2 a3
  unfold insAt at hins
  unfold ref16_Index_put
  refine xnew fun b=>?_
  refine xlen (E:=KE) (xs:=L) s fun hsn _=>?_
  refine xnone KE ?_
  refine xuse [Blk b [.int .i64 k.1,.int .i64 k.2],Blk bx [.pointer d,.pointer l,s.v],Ar KE s L,Ar KE ⟨none,0,0⟩ []] ?_
  let St:Nat→List KY:=fun i=>if i≤a then L.take i else L.take a++k::(L.take i).drop a
  refine xloop3 (fun n (out:Sl) (laid:Bool) (z:Int) As'=>∃ i:Nat,z=(i:Int)∧n=L.length - i∧i≤L.length∧laid=decide (a<i)∧As'=[Blk b [.int .i64 k.1,.int .i64 k.2],Blk bx [.pointer d,.pointer l,s.v],Ar KE s L,Ar KE out (if i≤a then L.take i else L.take a++k::(L.take i).drop a)]) L.length ⟨0,rfl,rfl,by omega,by simp,by simp⟩ ?_
  rintro n out laid _ _ K ⟨i,rfl,rfl,hi,rfl,rfl⟩ hK
  refine xnil (xget (h:=xif_dec (fun hlt=>?_) (fun hlt=>?_)))
  · have hil:i<L.length:=by omega
    obtain ⟨⟨t,q⟩,hy⟩:∃ y,L[i]? = some y:=⟨_,List.getElem?_eq_getElem hil⟩
    have etake:L.take (i+1)=L.take i++[(t,q)]:=by rw [List.take_add_one,hy];rfl
    have hcmp:ltK k (t,q)=decide (a≤i):=by
      rw [Bool.eq_iff_iff,decide_eq_true_eq]
      constructor
      · intro h
        rcases Nat.lt_or_ge i a with h1 | h1
        · have hm:(t,q)∈L.take a:=List.mem_of_getElem? (i:=i) (by rw [List.getElem?_take_of_lt h1];exact hy)
          have:=(ltK_spec _ _).1 (a2 _ hm)
          have:=(ltK_spec _ _).1 h
          simp only at *
          omega
        · exact h1
      · intro h
        exact a3 _ (List.mem_of_getElem? (i:=i - a) (by rw [List.getElem?_drop];rw [show a+(i - a)=i by omega];exact hy))
    -- is the entry put here
    refine xdraw (xjoin1 (fun(c:Bool) As'=>c=decide (a=i)∧As'=[Blk b [.int .i64 k.1,.int .i64 k.2],Blk bx [.pointer d,.pointer l,s.v],Ar KE s L,Ar KE out (if i≤a then L.take i else L.take a++k::(L.take i).drop a)]) (fun K1 hK1=>?_) ?_)
    · refine xif (fun h=>?_) (fun h=>hK1 _ _ ⟨?_,rfl⟩)
      · have hia:¬ a<i:=by simpa using h
        have hcmp':ltK k (t,q)=decide (a=i):=by rw [hcmp,Bool.eq_iff_iff];simp;omega
        refine xget (h:=xnil (xget (h:=?_)))
        refine xidxn (E:=KE) (xs:=L) (s:=s) (h1:=hil) (h:=fun _ _=>?_)
        refine xgetE (E:=KE) (xs:=L) hy (h:=xif_dec (fun h1=>?_) (fun h1=>?_))
        · exact hK1 _ _ ⟨by rw [←hcmp'];exact ((ltK_spec _ _).2 (.inl h1)).symm,rfl⟩
        · refine xget (h:=xnil (xget (h:=?_)))
          refine xidxn (E:=KE) (xs:=L) (s:=s) (h1:=hil) (h:=fun _ _=>?_)
          refine xgetE (E:=KE) (xs:=L) hy (h:=xif (fun h2=>?_) (fun h2=>?_))
          · have h2':k.1=t:=by simpa using h2
            refine xget (h:=xnil (xget (h:=?_)))
            refine xidxn (E:=KE) (xs:=L) (s:=s) (h1:=hil) (h:=fun _ _=>?_)
            refine xgetEj (E:=KE) (xs:=L) hy (h:=hK1 _ _ ⟨?_,rfl⟩)
            rw [←hcmp',Bool.eq_iff_iff,ltK_spec,decide_eq_true_eq]
            simp only;omega
          · have h2':¬ k.1=t:=by simpa using h2
            refine hK1 _ _ ⟨?_,rfl⟩
            rw [←hcmp',Bool.eq_iff_iff,ltK_spec]
            simp only [Bool.false_eq_true,false_iff]
            simp only at h1;omega
      · have:a<i:=by simpa using h
        have:¬ a=i:=by omega
        simp [this]
    rintro c _ ⟨rfl,rfl⟩
    have hstl:(if i≤a then L.take i else L.take a++k::(L.take i).drop a).length≤1000002:=by
      split
      · rw [List.length_take];omega
      · rw [List.length_append,List.length_cons,List.length_take,List.length_drop,List.length_take];omega
    refine xjoin2 (fun(out1:Sl) (laid1:Bool) As'=>laid1=decide (a<i+1)∧As'=[Blk bx [.pointer d,.pointer l,s.v],Ar KE s L,Blk b [.int .i64 k.1,.int .i64 k.2],Ar KE out1 (if i<a then L.take i else L.take a++k::(L.take i).drop a)]) (fun K1 hK1=>?_) ?_
    · refine xif_dec (fun h=>?_) (fun h=>?_)
      · refine xget (h:=xget (h:=xnew fun b1=>?_))
        refine xapp1 (E:=KE) k (hb:=by omega) (h:=fun s4=>?_)
        have e:(if i≤a then L.take i else L.take a++k::(L.take i).drop a)++[k]=(if i<a then L.take i else L.take a++k::(L.take i).drop a):=by
          subst h
          rw [if_pos (Nat.le_refl _),if_neg (Nat.lt_irrefl _),List.drop_of_length_le (by rw [List.length_take];omega)]
        rw [e]
        refine xuse [Blk bx [.pointer d,.pointer l,s.v],Ar KE s L,Blk b [.int .i64 k.1,.int .i64 k.2],Ar KE s4 (if i<a then L.take i else L.take a++k::(L.take i).drop a)] (hK1 _ _ _ ⟨?_,rfl⟩)
        simp;omega
      · have e:(if i≤a then L.take i else L.take a++k::(L.take i).drop a)=(if i<a then L.take i else L.take a++k::(L.take i).drop a):=by
          by_cases h1:i<a
          · rw [if_pos h1,if_pos (by omega)]
          · rw [if_neg h1,if_neg (by omega)]
        rw [e]
        refine xuse [Blk bx [.pointer d,.pointer l,s.v],Ar KE s L,Blk b [.int .i64 k.1,.int .i64 k.2],Ar KE out (if i<a then L.take i else L.take a++k::(L.take i).drop a)] (hK1 _ _ _ ⟨?_,rfl⟩)
        rw [Bool.eq_iff_iff];simp;omega
    rintro (out1:Sl) (laid1:Bool) _ ⟨rfl,rfl⟩
    have hstl2:(if i<a then L.take i else L.take a++k::(L.take i).drop a).length≤1000002:=by
      split
      · rw [List.length_take];omega
      · rw [List.length_append,List.length_cons,List.length_take,List.length_drop,List.length_take];omega
    refine xnil (xget (h:=?_))
    refine xidxn (E:=KE) (xs:=L) (s:=s) (h1:=hil) (h:=fun _ _=>?_)
    refine xgetE (E:=KE) (xs:=L) hy (h:=?_)
    refine xgetEj (E:=KE) (xs:=L) hy (h:=?_)
    dsimp only
    refine xnew fun b2=>?_
    refine xapp1 (E:=KE) ((t,q):KY) (hb:=by omega) (h:=fun s6=>?_)
    rw [wrap_succ i (by omega)]
    refine xuse [Blk b [.int .i64 k.1,.int .i64 k.2],Blk bx [.pointer d,.pointer l,s.v],Ar KE s L,Ar KE s6 ((if i<a then L.take i else L.take a++k::(L.take i).drop a)++[(t,q)])] (hK (L.length - (i+1)) _ _ _ _ (by omega) ⟨i+1,rfl,rfl,by omega,rfl,?_⟩)
    congr 5
    rw [etake]
    by_cases h1:i<a
    · rw [if_pos h1,if_pos (by omega)]
    · rw [if_neg h1,if_neg (by omega),List.drop_append_of_le_length (by rw [List.length_take];omega)];simp
  · have hil:i=L.length:=by omega
    subst hil
    refine xjoin1 (fun(out2:Sl) As'=>As'=[Blk bx [.pointer d,.pointer l,s.v],Ar KE out2 (insK k L)]) (fun K1 hK1=>?_) ?_
    · refine xif (fun h=>?_) (fun h=>?_)
      · have hia:¬ a<L.length:=by simpa using h
        have hae:a=L.length:=by omega
        refine xget (h:=xget (h:=xnew fun b1=>?_))
        have hstl:(if L.length≤a then L.take L.length else L.take a++k::(L.take L.length).drop a).length≤1000002:=by
          rw [if_pos (by omega),List.length_take];omega
        refine xapp1 (E:=KE) k (hb:=by omega) (h:=fun s7=>?_)
        have e:(if L.length≤a then L.take L.length else L.take a++k::(L.take L.length).drop a)++[k]=insK k L:=by
          rw [hins,if_pos (by omega),hae,List.drop_length]
        rw [e]
        exact xuse [Blk bx [.pointer d,.pointer l,s.v],Ar KE s7 (insK k L)] (hK1 _ _ rfl)
      · have hia:a<L.length:=by simpa using h
        have e:(if L.length≤a then L.take L.length else L.take a++k::(L.take L.length).drop a)=insK k L:=by
          rw [hins,if_neg (by omega),List.take_length]
        rw [e]
        exact xuse [Blk bx [.pointer d,.pointer l,s.v],Ar KE out (insK k L)] (hK1 _ _ rfl)
    rintro (out2:Sl) _ rfl
    refine xnil (xset (h:=?_))
    exact xuse [Blk bx [.pointer d,.pointer l,out2.v],Ar KE out2 (insK k L)] (xret ⟨out2,rfl⟩)
theorem rinv_put {m:XM}(hi:RInv m) {t n:Int}(h0:0≤n) (hn:m.last<n) (hl:m.L.length≤999999):RInv (putX m t n)∧(t,n)∉m.L:=by
  have hno:(t,n)∉m.L:=fun h=>by have:=(hi.top _ h).2;simp only at this;omega
  have hlast:(putX m t n).last=n:=by show (if n>m.last then n else m.last)=n;rw [if_pos hn]
  refine ⟨⟨ins_srt hi.srt,fun y hy=>?_,.inr ⟨(t,n),(ins_iff hi.srt).2 (.inl rfl),hlast.symm⟩,?_⟩,hno⟩
  · rw [hlast]
    rcases (ins_iff hi.srt).1 hy with rfl | hy
    · exact ⟨h0,Int.le_refl _⟩
    · have:=hi.top y hy;omega
  · show (insK (t,n) m.L).length≤_
    rw [ins_len hno];omega
theorem rPut16_spec (x d l:Option Addr) (m:XM) (t n:Int) (h0:0≤n) (hn:m.last<n) (hl:m.L.length≤999999):Ct Pr F_ref16_Index_put [.pointer x,.agg #[.int .i64 t,.int .i64 n]] (.tup []) [] [RIdxObj x d l m] emp
    (fun _ Bs=>Bs=[RIdxObj x d l (putX m t n)]):=by
  refine spec0 (φ:=XCall Pr F_ref16_Index_put [.pointer x,.agg #[.int .i64 t,.int .i64 n]] (.tup []) []) id fun B _=>?_
  refine xridx 0 fun hi b s hx=>?_
  subst hx
  obtain ⟨hi2,hno⟩:=rinv_put hi h0 hn (t:=t) hl
  refine xcl (rPut16_raw b d l s m.L (t,n) hi.srt hno (by omega)) rdb ?_
  rintro _ _ ⟨s',rfl⟩
  refine app2 ?_
  refine xfold [Blk b [.pointer d,.pointer l,s'.v],Ar KE s' (insK (t,n) m.L)] (RIdxObj (some ⟨b,0,none⟩) d l (putX m t n)) (fun g hg=>⟨hi2,b,s',rfl,hg⟩) ?_
  exact xuse [RIdxObj (some ⟨b,0,none⟩) d l (putX m t n)] (xret rfl)
end Go.Cx
namespace Go.Cx
open Go Go.Cf
set_option linter.unusedVariables false
set_option maxRecDepth 100000
variable {B:Base}{As F:List HP}{α:Type}
theorem rAt_spec (b:Sl) (xs:List UInt8) (i:Nat) (hi:i+8≤xs.length) (hm:xs.length≤140737488351232):Ct Pr F_ref11_at [b.v,.int .i64 (i:Int)] .one [.int .i64] [] (RAr U8 b xs)
    (fun t Bs=>t.1=IntKind.i64.wrap ((beV (cut8 xs i):Nat):Int)∧Bs=[]):=by
  refine spec1 c_ref11_at fun B hr=>?_
  haveI:Fro B b U8 xs:=⟨hr⟩
  have hn:=hr.1
  unfold ref11_at
  have h8:(cut8 xs i).length=8:=cut8_len hi
  have e256:(2:Int) ^ (min (Int.toNat 8) 64)=256:=by decide
  rw [e256]
  refine xloop2 (fun n (u:Int) (z:Int) As'=>∃ k:Nat,z=(k:Int)∧n=8 - k∧k≤8∧u=((beV ((cut8 xs i).take k):Nat):Int)∧As'=[]) 8 ⟨0,rfl,rfl,by omega,by simp [beV],rfl⟩ ?_
  rintro n _ _ _ K ⟨k,rfl,rfl,hk,rfl,rfl⟩ hK
  refine xif_dec (fun h=>?_) (fun h=>?_)
  · have hk8:k<8:=by omega
    obtain ⟨y,hy⟩:∃ y,xs[i+k]? = some y:=⟨_,List.getElem?_eq_getElem (by omega)⟩
    have hc:(cut8 xs i)[k]? = some y:=by rw [cut8_get hk8,hy]
    have etake:(cut8 xs i).take (k+1)=(cut8 xs i).take k++[y]:=by rw [List.take_add_one,hc];rfl
    have hs:=beV_snoc ((cut8 xs i).take k) y
    rw [←etake] at hs
    have hl1:=beV_small h8 hk8
    have hy8:=y.toNat_lt
    refine xasrt (by decide) ?_
    rw [wrap_id _ (by omega) (by omega),show (i:Int)+(k:Int)=((i+k:Nat):Int) by omega]
    refine xidxn (E:=U8) (xs:=xs) (s:=b) (h1:=by omega) (h:=fun _ _=>?_)
    refine xgetE (E:=U8) (xs:=xs) hy (h:=?_)
    have w1:IntKind.u64.wrap (((beV ((cut8 xs i).take k):Nat):Int)*256)=((beV ((cut8 xs i).take k)*256:Nat):Int):=by
      rw [show ((beV ((cut8 xs i).take k):Nat):Int)*256=((beV ((cut8 xs i).take k)*256:Nat):Int) by omega,wrap_u64 _ (by omega)]
    rw [w1,wrap_u64 y.toNat (by omega),←Int.natCast_add,wrap_u64 _ (by omega),wrap_succ k (by omega)]
    exact hK _ _ _ _ (by omega) ⟨k+1,rfl,rfl,by omega,by rw [hs],rfl⟩
  · have:k=8:=by omega
    subst this
    rw [List.take_of_length_le (by omega)]
    exact xret ⟨rfl,rfl⟩
def lenM (k:Int) (xs:List UInt8):Int:=
  if k=1∨k=2 then (if xs.length<10 then -1 else 18+((xs.getD 9 0).toNat:Int)) else if k=6 then 25 else 17
theorem rLen11_spec (b:Sl) (x:UInt8) (rest:List UInt8) (hk:1≤(x.toNat:Int)∧(x.toNat:Int)≤6):Ct Pr F_ref11_length [b.v] .one [.int .i64] [] (RAr U8 b (x::rest))
    (fun t Bs=>t.1=lenM (x.toNat:Int) (x::rest)∧Bs=[]):=by
  refine spec1 c_ref11_length fun B hr=>?_
  haveI:Fro B b U8 (x::rest):=⟨hr⟩
  have hn:=hr.1
  have tag:∀ {As:List HP}{k:Int}{K:Bool→WP},Ent B As (K ((k == 1)||(k == 2)))→Ent B As (XCall Pr F_ref11_tagged [.int .i64 k] .one [.bool] K):=by
    intro As k K hK
    refine xcall0 (tagged_spec k) rdb ?_
    rintro ⟨c,_⟩ _ ⟨hc,rfl⟩
    simp only at hc;subst hc
    exact app0 (ca1 hK)
  have nam:∀ {As:List HP}{k:Int}{K:Bool→WP},Ent B As (K ((k == 5)||(k == 6)))→Ent B As (XCall Pr F_ref11_named [.int .i64 k] .one [.bool] K):=by
    intro As k K hK
    refine xcall0 (named_spec11 k) rdb ?_
    rintro ⟨c,_⟩ _ ⟨hc,rfl⟩
    simp only at hc;subst hc
    exact app0 (ca1 hK)
  have val:∀ {As:List HP}{k:Int}{K:Bool→WP},Ent B As (K (k != 5))→Ent B As (XCall Pr F_ref11_valued [.int .i64 k] .one [.bool] K):=by
    intro As k K hK
    refine xcall0 (valued_spec k) rdb ?_
    rintro ⟨c,_⟩ _ ⟨hc,rfl⟩
    simp only at hc;subst hc
    exact app0 (ca1 hK)
  have x256:=x.toNat_lt
  have wx:IntKind.i64.wrap (x.toNat:Int)=(x.toNat:Int):=wrap_id _ (by omega) (by omega)
  unfold ref11_length
  refine xidxn (E:=U8) (xs:=x::rest) (s:=b) (k:=0) (h1:=by simp) (h:=fun _ _=>xgetE (E:=U8) (xs:=x::rest) (x:=x) rfl (h:=?_))
  rw [wx]
  refine tag ?_
  have tail:∀ (n:Int),0≤n→n≤1000→n+(if (x.toNat:Int)=6 then 16 else 8)=lenM (x.toNat:Int) (x::rest)→Ent B [] (XIdx b.p b.n 0 1 fun a2=>XGet (.int .u8) a2 fun(y2:Int)=>XCall Pr F_ref11_named [.int .i64 (IntKind.i64.wrap (y2))] .one [.bool]<|fun(c1:Bool)=>XJoin [.int .i64] (fun(K'1:Int→WP)=>XIf c1 (K'1 (IntKind.i64.wrap (n+8))) (K'1 n))<|fun(n1:Int)=>XIdx b.p b.n 0 1 fun a3=>XGet (.int .u8) a3 fun(y3:Int)=>XCall Pr F_ref11_valued [.int .i64 (IntKind.i64.wrap (y3))] .one [.bool]<|fun(c2:Bool)=>XJoin [.int .i64] (fun(K'2:Int→WP)=>XIf c2 (K'2 (IntKind.i64.wrap (n1+8))) (K'2 n1))<|fun(n2:Int)=>Ret B (ss:=[.int .i64]) (fun t Bs=>t.1=lenM (x.toNat:Int) (x::rest)∧Bs=[]) (n2,())):=by
    intro n h0 h1 h2
    refine xidxn (E:=U8) (xs:=x::rest) (s:=b) (k:=0) (h1:=by simp) (h:=fun _ _=>xgetE (E:=U8) (xs:=x::rest) (x:=x) rfl (h:=?_))
    rw [wx]
    refine nam (xjoin1 (fun(y:Int) As'=>y=(if (x.toNat:Int)=5∨(x.toNat:Int)=6 then n+8 else n)∧As'=[]) (fun K1 hK1=>xif (fun h=>hK1 _ _ ⟨?_,rfl⟩) (fun h=>hK1 _ _ ⟨?_,rfl⟩)) ?_)
    · rw [wrap_id _ (by omega) (by omega),if_pos (by simpa using h)]
    · rw [if_neg (by simpa using h)]
    rintro (y:Int) _ ⟨rfl,rfl⟩
    refine xidxn (E:=U8) (xs:=x::rest) (s:=b) (k:=0) (h1:=by simp) (h:=fun _ _=>xgetE (E:=U8) (xs:=x::rest) (x:=x) rfl (h:=?_))
    rw [wx]
    refine val (xjoin (xif (fun h=>xret ⟨?_,rfl⟩) (fun h=>xret ⟨?_,rfl⟩)))
    · have h5:¬ (x.toNat:Int)=5:=by simpa using h
      show IntKind.i64.wrap ((if (x.toNat:Int)=5∨(x.toNat:Int)=6 then n+8 else n)+8)=_
      rw [←h2]
      by_cases h6:(x.toNat:Int)=6
      · rw [if_pos (.inr h6),if_pos h6,wrap_id _ (by omega) (by omega)];omega
      · rw [if_neg (by omega),if_neg h6,wrap_id _ (by omega) (by omega)]
    · have h5:(x.toNat:Int)=5:=by simpa using h
      show (if (x.toNat:Int)=5∨(x.toNat:Int)=6 then n+8 else n)=_
      rw [←h2,if_pos (.inl h5),if_neg (by omega)]
  refine xjoin1 (fun(n:Int) As'=>(0≤n∧n≤1000∧n+(if (x.toNat:Int)=6 then 16 else 8)=lenM (x.toNat:Int) (x::rest))∧As'=[]) (fun K1 hK1=>?_) ?_
  · refine xif (fun h=>?_) (fun h=>hK1 _ _ ⟨⟨by omega,by omega,?_⟩,rfl⟩)
    · have ht:(x.toNat:Int)=1∨(x.toNat:Int)=2:=by simpa using h
      refine xif_dec (fun h2=>xret ⟨?_,rfl⟩) (fun h2=>?_)
      · unfold lenM;rw [if_pos ht,if_pos (by simp at hn ⊢;omega)]
      · obtain ⟨y,hy⟩:∃ y,(x::rest)[9]? = some y:=⟨_,List.getElem?_eq_getElem (by simp at hn ⊢;omega)⟩
        have hy8:=y.toNat_lt
        refine xidxn (E:=U8) (xs:=x::rest) (s:=b) (k:=9) (h1:=(List.getElem?_eq_some_iff.1 hy).1) (h:=fun _ _=>xgetE (E:=U8) (xs:=x::rest) (x:=y) hy (h:=?_))
        rw [wrap_id (y.toNat:Int) (by omega) (by omega),wrap_id _ (by omega) (by omega)]
        refine hK1 _ _ ⟨⟨by omega,by omega,?_⟩,rfl⟩
        unfold lenM
        rw [if_pos ht,if_neg (by simp at hn ⊢;omega),if_neg (by omega),List.getD_eq_getElem?_getD,hy]
        simp only [Option.getD_some];omega
    · have ht:¬ ((x.toNat:Int)=1∨(x.toNat:Int)=2):=by simpa using h
      unfold lenM
      rw [if_neg ht]
      split<;>omega
  rintro (n:Int) _ ⟨⟨n1,n2,n3⟩,rfl⟩
  exact tail n n1 n2 n3
end Go.Cx
namespace Go.Cx
open Go Go.Cf
set_option linter.unusedVariables false
set_option maxRecDepth 100000
variable {B:Base}{As F:List HP}{α:Type}
abbrev num8 (xs:List UInt8) (i:Nat):Int:=IntKind.i64.wrap ((beV (cut8 xs i):Nat):Int)
def recOf (k:Int) (xs:List UInt8):RE:=
  if k=1∨k=2 then ⟨k,num8 xs 1,⟨((xs.drop 10).take (xs.getD 9 0).toNat).toArray⟩,num8 xs (10+(xs.getD 9 0).toNat),0⟩
  else if k=5 then ⟨k,num8 xs 1,ByteArray.empty,0,num8 xs 9⟩
  else if k=6 then ⟨k,num8 xs 1,ByteArray.empty,num8 xs 17,num8 xs 9⟩
  else ⟨k,num8 xs 1,ByteArray.empty,num8 xs 9,0⟩
theorem num_short {r:List UInt8}(h:r.length<8) (sh:Bool):numM r sh=(0,r,true):=by unfold numM;rw [if_pos h]
theorem num_long {r:List UInt8}(h:¬ r.length<8) (sh:Bool):numM r sh=(IntKind.i64.wrap ((beV (r.take 8):Nat):Int),r.drop 8,sh):=by unfold numM;rw [if_neg h]
theorem fin_short (r:RE) (rest:List UInt8):(finM r rest true).2≠0:=by unfold finM;simp
theorem fin_long (r:RE) {rest:List UInt8}(h:0<rest.length) (sh:Bool):(finM r rest sh).2≠0:=by
  cases sh<;>simp [finM,h]
theorem fin_ok (r:RE):finM r [] false=if checkR r≠0 then (rec0,checkR r) else (r,0):=by unfold finM;simp
theorem fin_bad (r:RE) {rest:List UInt8}{sh:Bool}(h:sh=true∨0<rest.length):(finM r rest sh).2≠0:=by
  rcases h with rfl | h
  · exact fin_short _ _
  · exact fin_long _ h _
theorem num_inv (r:List UInt8) (sh:Bool):(numM r sh).2.2=true∨((numM r sh).2.2=sh∧(numM r sh).2.1.length+8=r.length):=by
  by_cases h:r.length<8
  · left;rw [num_short h]
  · right;rw [num_long h];exact ⟨rfl,by simp only [List.length_drop];omega⟩
theorem num_true (r:List UInt8):(numM r true).2.2=true:=by unfold numM;split<;>rfl
theorem cut_one (x:UInt8) (rest:List UInt8) (i:Nat):cut8 (x::rest) (i+1)=(rest.drop i).take 8:=by
  unfold cut8
  rw [show i+1+8=(i+8)+1 by omega,List.take_succ_cons,List.drop_succ_cons,List.drop_take]
  congr 1;omega
theorem getM_len (x:UInt8) (rest:List UInt8) (hk:1≤(x.toNat:Int)∧(x.toNat:Int)≤6) :
    (((x::rest).length:Int)≠lenM (x.toNat:Int) (x::rest)→(getM (x::rest)).2≠0) ∧
    (((x::rest).length:Int)=lenM (x.toNat:Int) (x::rest)→getM (x::rest)=if checkR (recOf (x.toNat:Int) (x::rest))≠0 then (rec0,checkR (recOf (x.toNat:Int) (x::rest))) else (recOf (x.toNat:Int) (x::rest),0)):=by
  have hw:withinB (x.toNat:Int) 1 6=true:=by unfold withinB;simp;omega
  rw [getM_ok hw]
  generalize hK:(x.toNat:Int)=k at *
  have hlen:((x::rest).length:Int)=rest.length+1:=by simp
  rw [hlen]
  by_cases h12:k=1∨k=2
  · have e1:∀ a,getK k a=tagged k a:=fun a=>by unfold getK;rw [if_pos h12]
    have e2:lenM k (x::rest)=if rest.length<9 then -1 else 18+((rest.getD 8 0).toNat:Int):=by
      unfold lenM;rw [if_pos h12]
      simp only [List.length_cons]
      by_cases h:rest.length<9
      · rw [if_pos h,if_pos (by omega)]
      · rw [if_neg h,if_neg (by omega)];rfl
    rw [e1,e2]
    by_cases h9:rest.length<9
    · rw [if_pos h9]
      refine ⟨fun _=>?_,fun e=>by omega⟩
      by_cases h8:rest.length<8
      · rw [num_short h8]
        cases rest with
        | nil=>simp [tagged]
        | cons n r2=>
          unfold tagged
          simp only
          by_cases h1:r2.length<n.toNat
          · rw [if_pos h1];simp
          · rw [if_neg h1]
            have:(numM (r2.drop n.toNat) true).2.2=true:=by unfold numM;split<;>rfl
            rw [this];exact fin_short _ _
      · rw [num_long h8]
        unfold tagged
        simp only
        rw [List.drop_of_length_le (by omega)];simp
    · rw [if_neg h9,num_long (by omega)]
      obtain ⟨n,hn⟩:∃ n,rest[8]? = some n:=⟨_,List.getElem?_eq_getElem (by omega)⟩
      have hd:rest.drop 8=n::rest.drop 9:=by
        rw [List.drop_eq_getElem_cons (by omega)];congr 1
        exact (List.getElem?_eq_some_iff.1 hn).2
      have hg:rest.getD 8 0=n:=by rw [List.getD_eq_getElem?_getD,hn];rfl
      unfold tagged
      simp only
      rw [hd,hg]
      simp only
      have hl9:(rest.drop 9).length=rest.length - 9:=List.length_drop
      refine ⟨fun h=>?_,fun h=>?_⟩
      · by_cases h1:(rest.drop 9).length<n.toNat
        · rw [if_pos h1];simp
        · rw [if_neg h1]
          by_cases h2:((rest.drop 9).drop n.toNat).length<8
          · rw [num_short h2];exact fin_short _ _
          · rw [num_long h2]
            rw [List.length_drop] at h2
            exact fin_long _ (by rw [List.length_drop,List.length_drop];omega) _
      · rw [if_neg (by omega)]
        have h2:((rest.drop 9).drop n.toNat).length=8:=by rw [List.length_drop];omega
        rw [num_long (by omega)]
        simp only
        rw [List.drop_of_length_le (l:=(rest.drop 9).drop n.toNat) (by omega),fin_ok]
        have e3:recOf k (x::rest)=⟨k,IntKind.i64.wrap ((beV (rest.take 8):Nat):Int),⟨((rest.drop 9).take n.toNat).toArray⟩,IntKind.i64.wrap ((beV (((rest.drop 9).drop n.toNat).take 8):Nat):Int),0⟩:=by
          unfold recOf num8
          rw [if_pos h12]
          have g9:(x::rest).getD 9 0=n:=hg
          rw [g9,cut_one x rest 0,show 10+n.toNat=(9+n.toNat)+1 by omega,cut_one,List.drop_drop];rfl
        rw [e3]
  · have two:rest.length≠16→(numM (numM rest false).2.1 (numM rest false).2.2).2.2=true∨0<(numM (numM rest false).2.1 (numM rest false).2.2).2.1.length:=fun hne=>by
      rcases num_inv rest false with h1 | ⟨h1,h2⟩
      · left;rw [h1];exact num_true _
      · rcases num_inv (numM rest false).2.1 (numM rest false).2.2 with h3 | ⟨h3,h4⟩
        · exact .inl h3
        · right;omega
    have two':rest.length=16→numM rest false=(num8 (x::rest) 1,rest.drop 8,false)∧numM (rest.drop 8) false=(num8 (x::rest) 9,[],false):=fun he=>by
      rw [num_long (by omega),num_long (by rw [List.length_drop];omega),List.drop_of_length_le (l:=rest.drop 8) (by rw [List.length_drop];omega)]
      unfold num8
      rw [cut_one x rest 0,cut_one x rest 8]
      exact ⟨rfl,rfl⟩
    by_cases h5:k=5
    · have e1:∀ a:Int×List UInt8×Bool,getK k a=finM ⟨k,a.1,ByteArray.empty,0,(numM a.2.1 a.2.2).1⟩ (numM a.2.1 a.2.2).2.1 (numM a.2.1 a.2.2).2.2:=fun a=>by unfold getK;rw [if_neg h12,if_pos h5]
      have e2:lenM k (x::rest)=17:=by unfold lenM;rw [if_neg h12,if_neg (by omega)]
      rw [e1,e2]
      refine ⟨fun h=>fin_bad _ (two (by omega)),fun h=>?_⟩
      obtain ⟨t1,t2⟩:=two' (by omega)
      rw [t1];simp only;rw [t2];simp only
      rw [fin_ok]
      have e3:recOf k (x::rest)=⟨k,num8 (x::rest) 1,ByteArray.empty,0,num8 (x::rest) 9⟩:=by unfold recOf;rw [if_neg h12,if_pos h5]
      rw [e3]
    by_cases h6:k=6
    · have e1:∀ a:Int×List UInt8×Bool,getK k a=finM ⟨k,a.1,ByteArray.empty,(numM (numM a.2.1 a.2.2).2.1 (numM a.2.1 a.2.2).2.2).1,(numM a.2.1 a.2.2).1⟩ (numM (numM a.2.1 a.2.2).2.1 (numM a.2.1 a.2.2).2.2).2.1 (numM (numM a.2.1 a.2.2).2.1 (numM a.2.1 a.2.2).2.2).2.2:=fun a=>by unfold getK;rw [if_neg h12,if_neg h5,if_pos h6]
      have e2:lenM k (x::rest)=25:=by unfold lenM;rw [if_neg h12,if_pos h6]
      rw [e1,e2]
      refine ⟨fun h=>fin_bad _ ?_,fun h=>?_⟩
      · rcases num_inv rest false with h1 | ⟨h1,h2⟩
        · left;rw [h1,num_true];exact num_true _
        · rcases num_inv (numM rest false).2.1 (numM rest false).2.2 with h3 | ⟨h3,h4⟩
          · left;rw [h3];exact num_true _
          · rcases num_inv (numM (numM rest false).2.1 (numM rest false).2.2).2.1 (numM (numM rest false).2.1 (numM rest false).2.2).2.2 with h7 | ⟨h7,h8⟩
            · exact .inl h7
            · right;omega
      · have t1:numM rest false=(num8 (x::rest) 1,rest.drop 8,false):=by rw [num_long (by omega)];unfold num8;rw [cut_one x rest 0];rfl
        have t2:numM (rest.drop 8) false=(num8 (x::rest) 9,rest.drop 16,false):=by rw [num_long (by rw [List.length_drop];omega),List.drop_drop];unfold num8;rw [cut_one x rest 8]
        have t3:numM (rest.drop 16) false=(num8 (x::rest) 17,[],false):=by rw [num_long (by rw [List.length_drop];omega),List.drop_of_length_le (l:=rest.drop 16) (by rw [List.length_drop];omega)];unfold num8;rw [cut_one x rest 16]
        rw [t1];simp only;rw [t2];simp only;rw [t3];simp only
        rw [fin_ok]
        have e3:recOf k (x::rest)=⟨k,num8 (x::rest) 1,ByteArray.empty,num8 (x::rest) 17,num8 (x::rest) 9⟩:=by unfold recOf;rw [if_neg h12,if_neg h5,if_pos h6]
        rw [e3]
    · have e1:∀ a:Int×List UInt8×Bool,getK k a=finM ⟨k,a.1,ByteArray.empty,(numM a.2.1 a.2.2).1,0⟩ (numM a.2.1 a.2.2).2.1 (numM a.2.1 a.2.2).2.2:=fun a=>by unfold getK;rw [if_neg h12,if_neg h5,if_neg h6]
      have e2:lenM k (x::rest)=17:=by unfold lenM;rw [if_neg h12,if_neg h6]
      rw [e1,e2]
      refine ⟨fun h=>fin_bad _ (two (by omega)),fun h=>?_⟩
      obtain ⟨t1,t2⟩:=two' (by omega)
      rw [t1];simp only;rw [t2];simp only
      rw [fin_ok]
      have e3:recOf k (x::rest)=⟨k,num8 (x::rest) 1,ByteArray.empty,num8 (x::rest) 9,0⟩:=by unfold recOf;rw [if_neg h12,if_neg h5,if_neg h6]
      rw [e3]
end Go.Cx
namespace Go.Cx
open Go Go.Cf
set_option linter.unusedVariables false
set_option maxRecDepth 100000
variable {B:Base}{As F:List HP}{α:Type}
def r11Post (bs:List UInt8):Tup [.int .i64,.int .i64,.str,.int .i64,.int .i64,.int .i64]→List HP→Prop:=fun t Bs=>
  ((t.2.2.2.2.2.1=0↔(getM bs).2=0)∧((getM bs).2=0→t.1=(getM bs).1.kind∧t.2.1=(getM bs).1.time∧t.2.2.1=(getM bs).1.tag∧t.2.2.2.1=(getM bs).1.val∧t.2.2.2.2.1=(getM bs).1.id))∧Bs=[]
theorem rGet11_spec (b:Sl) (bs:List UInt8) (hc:b.n≤b.c) (hm:bs.length≤140737488351232):Ct Pr F_ref11_Get [b.v] (.tup [some 5,none]) [.int .i64,.int .i64,.str,.int .i64,.int .i64,.int .i64] [] (RAr U8 b bs) (r11Post bs):=by
  refine spec_gen (ss:=[.int .i64,.int .i64,.str,.int .i64,.int .i64,.int .i64]) c_ref11_Get fun B hr=>?_
  show Ent B [] (ref11_Get b fun x0 x1 x2 x3 x4 x5=>Ret B (ss:=[.int .i64,.int .i64,.str,.int .i64,.int .i64,.int .i64]) (r11Post bs) (x0,x1,x2,x3,x4,x5,()))
  haveI:Fro B b U8 bs:=⟨hr⟩
  have hn:=hr.1
  have err:∀ {As:List HP}{a0 a1 a3 a4 e:Int}{a2:ByteArray},e≠0→(getM bs).2≠0→Ent B As (Ret B (ss:=[.int .i64,.int .i64,.str,.int .i64,.int .i64,.int .i64]) (r11Post bs) (a0,a1,a2,a3,a4,e,())):=fun h1 h2=>xkeep (l:=[]) (xret ⟨⟨⟨fun h=>absurd h h1,fun h=>absurd h h2⟩,fun h=>absurd h h2⟩,rfl⟩)
  unfold ref11_Get
  refine xnew fun b1=>?_
  cases bs with
  | nil=>
    have h0:b.n=0:=by simpa using hn.symm
    refine xift (by rw [h0];rfl) ?_
    iterate 5 (refine xset (h:=?_))
    iterate 5 (refine xget (h:=?_))
    exact err (by decide) (by simp [getM])
  | cons x rest=>
  have h0:b.n=rest.length+1:=by simpa using hn.symm
  have x256:=x.toNat_lt
  have wx:IntKind.i64.wrap (x.toNat:Int)=(x.toNat:Int):=wrap_id _ (by omega) (by omega)
  refine xiff (by simp;omega) ?_
  refine xidxn (E:=U8) (xs:=x::rest) (s:=b) (k:=0) (h1:=by simp) (h:=fun _ _=>xgetE (E:=U8) (xs:=x::rest) (x:=x) rfl (h:=xnew fun b2=>?_))
  rw [wx]
  iterate 5 (refine xset (h:=?_))
  refine xget (h:=?_)
  refine xjoin1 (fun(c:Bool) As'=>c=decide ((x.toNat:Int)<1∨(x.toNat:Int)>6)∧As'=[Blk b2 [.int .i64 (x.toNat:Int),.int .i64 0,.string ByteArray.empty,.int .i64 0,.int .i64 0],Blk b1 [.int .i64 0,.int .i64 0,.string ByteArray.empty,.int .i64 0,.int .i64 0]]) (fun K hK=>xif_dec (fun h=>hK _ _ ⟨by simp [h],rfl⟩) (fun h=>xget (h:=hK _ _ ⟨by rw [Bool.eq_iff_iff];simp;omega,rfl⟩))) ?_
  rintro c _ ⟨rfl,rfl⟩
  refine xif_dec (fun h=>?_) (fun h=>?_)
  · iterate 5 (refine xset (h:=?_))
    iterate 5 (refine xget (h:=?_))
    refine err (by decide) ?_
    rw [getM_bad (by unfold withinB;rw [Bool.eq_false_iff];simp;omega)];simp
  have hk:1≤(x.toNat:Int)∧(x.toNat:Int)≤6:=by omega
  obtain ⟨L1,L2⟩:=getM_len x rest hk
  refine xcl (pre:=[]) (rLen11_spec b x rest hk) rdb ?_
  rintro ⟨t,_⟩ _ ⟨ht,rfl⟩
  simp only at ht;subst ht
  have hlen:((x::rest).length:Int)=b.n:=by simp;omega
  refine app0 (ca1 (xif (fun h2=>?_) (fun h2=>?_)))
  · iterate 5 (refine xset (h:=?_))
    iterate 5 (refine xget (h:=?_))
    exact err (by decide) (L1 (by simp only [Bool.or_eq_true,decide_eq_true_eq] at h2;omega))
  simp only [Bool.or_eq_false_iff,decide_eq_false_iff_not] at h2
  refine xif_dec (fun h3=>?_) (fun h3=>?_)
  · iterate 5 (refine xset (h:=?_))
    iterate 5 (refine xget (h:=?_))
    exact err (by decide) (L1 (by omega))
  have hL:((x::rest).length:Int)=lenM (x.toNat:Int) (x::rest):=by omega
  have hg:=L2 hL
  have x5:=hk.2
  generalize hkx:(x.toNat:Int)=k at *
  generalize hxs:x::rest=xs at *
  have hxl:xs.length=b.n:=hn
  have atc:∀ {As:List HP}{i:Nat}{K:Int→WP},i+8≤xs.length→Ent B As (K (num8 xs i))→Ent B As (XCall Pr F_ref11_at [b.v,.int .i64 (i:Int)] .one [.int .i64] K):=by
    intro As i K hi hK
    refine xcl (pre:=[]) (rAt_spec b xs i hi hm) rdb ?_
    rintro ⟨t,_⟩ _ ⟨ht,rfl⟩
    simp only at ht;subst ht
    exact app0 (ca1 hK)
  have tag:∀ {As:List HP}{k:Int}{K:Bool→WP},Ent B As (K ((k == 1)||(k == 2)))→Ent B As (XCall Pr F_ref11_tagged [.int .i64 k] .one [.bool] K):=by
    intro As k K hK
    refine xcall0 (tagged_spec k) rdb ?_
    rintro ⟨c,_⟩ _ ⟨hc,rfl⟩
    simp only at hc;subst hc
    exact app0 (ca1 hK)
  have nam:∀ {As:List HP}{k:Int}{K:Bool→WP},Ent B As (K ((k == 5)||(k == 6)))→Ent B As (XCall Pr F_ref11_named [.int .i64 k] .one [.bool] K):=by
    intro As k K hK
    refine xcall0 (named_spec11 k) rdb ?_
    rintro ⟨c,_⟩ _ ⟨hc,rfl⟩
    simp only at hc;subst hc
    exact app0 (ca1 hK)
  have val:∀ {As:List HP}{k:Int}{K:Bool→WP},Ent B As (K (k != 5))→Ent B As (XCall Pr F_ref11_valued [.int .i64 k] .one [.bool] K):=by
    intro As k K hK
    refine xcall0 (valued_spec k) rdb ?_
    rintro ⟨c,_⟩ _ ⟨hc,rfl⟩
    simp only at hc;subst hc
    exact app0 (ca1 hK)
  have hT:(k=1∨k=2)→10≤xs.length∧xs.length=18+(xs.getD 9 0).toNat:=fun hT=>by
    unfold lenM at hL
    rw [if_pos hT] at hL
    split at hL<;>omega
  have hF:¬ (k=1∨k=2)→xs.length=if k=6 then 25 else 17:=fun hT=>by
    unfold lenM at hL
    rw [if_neg hT] at hL
    split at hL <;> (split<;>omega)
  generalize h9:(xs.getD 9 0).toNat=n9 at *
  have hL9:17≤xs.length:=by
    by_cases h:k=1∨k=2
    · have:=hT h;omega
    · have:=hF h;split at this<;>omega
  obtain ⟨tg,htg⟩:∃ tg:ByteArray,tg=if k=1∨k=2 then ⟨((xs.drop 10).take n9).toArray⟩ else ByteArray.empty:=⟨_,rfl⟩
  obtain ⟨j,hj⟩:∃ j:Nat,j=if k=1∨k=2 then 10+n9 else 9:=⟨_,rfl⟩
  obtain ⟨j2,hj2⟩:∃ j2:Nat,j2=if k=5∨k=6 then j+8 else j:=⟨_,rfl⟩
  obtain ⟨id',hid⟩:∃ z:Int,z=if k=5∨k=6 then num8 xs j else 0:=⟨_,rfl⟩
  obtain ⟨vl,hvl⟩:∃ z:Int,z=if k≠5 then num8 xs j2 else 0:=⟨_,rfl⟩
  have hjl:j+8≤xs.length:=by
    rw [hj];split
    · rename_i h;have:=hT h;omega
    · omega
  have hjl2:k≠5→j2+8≤xs.length:=fun h5=>by
    by_cases h:k=1∨k=2
    · have:=hT h;rw [hj2,if_neg (by omega),hj,if_pos h];omega
    · have:=hF h;rw [hj2,hj,if_neg h];split<;>split at this<;>omega
  have erec:recOf k xs=⟨k,num8 xs 1,tg,vl,id'⟩:=by
    unfold recOf
    rw [h9]
    by_cases h12:k=1∨k=2
    · rw [if_pos h12,htg,if_pos h12,hvl,if_pos (by omega),hid,if_neg (by omega),hj2,if_neg (by omega),hj,if_pos h12] <;> rfl
    · rw [if_neg h12,htg,if_neg h12,hvl,hid,hj2,hj,if_neg h12]
      by_cases h5:k=5
      · rw [if_pos h5,if_neg (by omega),if_pos (.inl h5)]
      · rw [if_neg h5,if_pos h5]
        by_cases h6:k=6
        · rw [if_pos h6,if_pos (.inr h6),if_pos (.inr h6)]
        · rw [if_neg h6,if_neg (by omega),if_neg (by omega)]
  rw [erec] at hg
  rw [show (1:Int)=((1:Nat):Int) from rfl]
  refine atc (by omega) (xset (h:=xget (h:=tag ?_)))
  refine xjoin1 (fun(i:Int) As'=>i=(j:Int)∧As'=[Blk b2 (RE.cells ⟨k,num8 xs 1,tg,0,0⟩),Blk b1 [.int .i64 0,.int .i64 0,.string ByteArray.empty,.int .i64 0,.int .i64 0]]) (fun K1 hK1=>xif (fun h=>?_) (fun h=>?_)) ?_
  · have hT':k=1∨k=2:=by simpa using h
    obtain ⟨l10,l18⟩:=hT hT'
    obtain ⟨y,hy⟩:∃ y,xs[9]? = some y:=⟨_,List.getElem?_eq_getElem (by omega)⟩
    have hyn:y.toNat=n9:=by rw [←h9,List.getD_eq_getElem?_getD,hy];rfl
    have hy8:=y.toNat_lt
    refine xidxn (E:=U8) (xs:=xs) (s:=b) (k:=9) (h1:=by omega) (h:=fun _ _=>xgetE (E:=U8) (xs:=xs) (x:=y) hy (h:=?_))
    have ew:IntKind.i64.wrap (10+IntKind.i64.wrap (y.toNat:Int))=((10+n9:Nat):Int):=by
      rw [wrap_id (y.toNat:Int) (by omega) (by omega),wrap_id _ (by omega) (by omega)];omega
    rw [ew]
    refine xslc (by omega) (by omega) (by omega) (by omega) ?_
    rw [show (10:Int).toNat=10 from rfl,Int.toNat_natCast,Int.toNat_natCast]
    have hcut:=hr.cut 10 (10+n9) b.c (by omega) (by omega) (by omega)
    have etk:(xs.take (10+n9)).drop 10=(xs.drop 10).take n9:=by rw [List.drop_take];congr 1;omega
    rw [etk] at hcut
    haveI:Fro B (b.cut 10 (10+n9) b.c 1) U8 ((xs.drop 10).take n9):=⟨hcut⟩
    obtain ⟨a,ha⟩:∃ a,(b.cut 10 (10+n9) b.c 1).p=some a:=by
      obtain ⟨_,_,hq⟩:=hr
      obtain ⟨bb,oo,_,_,_,_,hp,_⟩:=hq (by omega)
      unfold Sl.cut
      rw [hp]
      split
      · exact ⟨_,rfl⟩
      · exact ⟨_,rfl⟩
    refine xstr' (e:=T_uint8) ha (by kernel_rfl) (by kernel_rfl) (by kernel_rfl) (xset (h:=hK1 _ _ ⟨?_,?_⟩))
    · rw [hj,if_pos hT'] <;> rfl
    · rw [htg,if_pos hT'] <;> rfl
  · have hT':¬ (k=1∨k=2):=by simpa using h
    refine hK1 _ _ ⟨?_,?_⟩
    · rw [hj,if_neg hT'] <;> rfl
    · rw [htg,if_neg hT'] <;> rfl
  rintro (i:Int) _ ⟨rfl,rfl⟩
  refine xget (h:=nam ?_)
  refine xjoin1 (fun(i:Int) As'=>i=(j2:Int)∧As'=[Blk b2 (RE.cells ⟨k,num8 xs 1,tg,0,id'⟩),Blk b1 [.int .i64 0,.int .i64 0,.string ByteArray.empty,.int .i64 0,.int .i64 0]]) (fun K1 hK1=>xif (fun h=>?_) (fun h=>?_)) ?_
  · have hN:k=5∨k=6:=by simpa using h
    refine atc hjl (xset (h:=hK1 _ _ ⟨?_,?_⟩))
    · rw [wrap_id _ (by omega) (by omega),hj2,if_pos hN] <;> rfl
    · rw [hid,if_pos hN] <;> rfl
  · have hN:¬ (k=5∨k=6):=by simpa using h
    refine hK1 _ _ ⟨?_,?_⟩
    · rw [hj2,if_neg hN] <;> rfl
    · rw [hid,if_neg hN] <;> rfl
  rintro (i:Int) _ ⟨rfl,rfl⟩
  refine xget (h:=val ?_)
  refine xjoin0 (fun As'=>As'=[Blk b2 (RE.cells ⟨k,num8 xs 1,tg,vl,id'⟩),Blk b1 [.int .i64 0,.int .i64 0,.string ByteArray.empty,.int .i64 0,.int .i64 0]]) (fun K1 hK1=>xif (fun h=>?_) (fun h=>?_)) ?_
  · have hV:k≠5:=by simpa using h
    refine atc (hjl2 hV) (xset (h:=hK1 _ ?_))
    rw [hvl,if_pos hV] <;> rfl
  · have hV:¬ (k≠5):=by simpa using h
    refine hK1 _ ?_
    rw [hvl,if_neg hV] <;> rfl
  rintro _ rfl
  iterate 5 (refine xget (h:=?_))
  refine xcall0 (rCheck_spec ⟨k,num8 xs 1,tg,vl,id'⟩) rdb ?_
  rintro ⟨c,_⟩ _ ⟨hc,rfl⟩
  simp only at hc;subst hc
  refine app0 (ca1 (xif (fun h=>?_) (fun h=>?_)))
  · have h0:checkR ⟨k,num8 xs 1,tg,vl,id'⟩≠0:=by simpa using h
    rw [if_pos h0] at hg
    iterate 5 (refine xset (h:=?_))
    iterate 5 (refine xget (h:=?_))
    exact err h0 (by rw [hg];exact h0)
  · have h0:¬ checkR ⟨k,num8 xs 1,tg,vl,id'⟩≠0:=by simpa using h
    rw [if_neg h0] at hg
    iterate 5 (refine xget (h:=?_))
    iterate 5 (refine xset (h:=?_))
    iterate 5 (refine xget (h:=?_))
    refine xkeep (l:=[]) (xret ?_)
    unfold r11Post
    rw [hg]
    exact ⟨⟨⟨fun _=>rfl,fun _=>rfl⟩,fun _=>⟨rfl,rfl,rfl,rfl,rfl⟩⟩,rfl⟩
end Go.Cx
namespace Go.Cx
open Go Go.Cf
set_option linter.unusedVariables false
set_option maxRecDepth 100000
variable {B:Base}{As F:List HP}{α:Type}
theorem rNext14_spec (q p:Option Addr) (l:LM):Ct Pr F_ref14_Log_Next [.pointer q] .one [.int .i64] [RLogObj q p l] emp (fun t Bs=>t.1=l.next∧Bs=[RLogObj q p l]):=by
  refine spec1 (φ:=XCall Pr F_ref14_Log_Next [.pointer q] .one [.int .i64]) id fun B _=>?_
  refine xrlog 0 fun hi b n s cs hq hn hf hs=>?_
  subst hq
  refine xcl (rNext_raw b p n l s cs hs hf hi) rdb ?_
  rintro ⟨t,_⟩ _ ⟨ht,rfl⟩
  simp only at ht;subst ht
  refine app2 (ca1 ?_)
  refine xrlog_back (p:=p) (l:=l) b n s cs hi hn ?_
  exact xuse [RLogObj (some ⟨b,0,none⟩) p l] (xret ⟨rfl,rfl⟩)
theorem xrlo {q p:Option Addr}{l:LM}{F:List HP}{K:Int→WP}(h:Ent B (RLogObj q p l::F) (K l.lo)):Ent B (RLogObj q p l::F) (XNil q fun a=>XGet (.int .i64) (a.add 2) K):=by
  refine xrlog 0 fun hi b n s cs hq hn hf hs=>?_
  subst hq
  refine xnil (xget (h:=?_))
  exact xrlog_back (p:=p) (l:=l) b n s cs hi hn h
theorem xroff {p:Option Addr}{m:DM}{F:List HP}{K:Bool→WP}(h:Ent B (RefDev p m::F) (K m.down)):Ent B (RefDev p m::F) (XNil p fun a=>XGet .bool (a.add 2) K):=by
  refine xrdev 0 fun hi b s cs hp sf hn=>?_
  subst hp
  refine xnil (xget (h:=?_))
  exact xrdev_back b s cs hi h
theorem rxgot {s:Sl}{xs:List UInt8}{F:List HP}{K:Int→Int→ByteArray→Int→Int→Int→WP}(hl:xs.length≤1000000)
    (h0:(getM xs).2=0→Ent B (Ar U8 s xs::F) (K (getM xs).1.kind (getM xs).1.time (getM xs).1.tag (getM xs).1.val (getM xs).1.id 0))
    (h1:(getM xs).2≠0→∀ a0 a1 a2 a3 a4 e,e≠0→Ent B (Ar U8 s xs::F) (K a0 a1 a2 a3 a4 e)) :
    Ent B (Ar U8 s xs::F) (XCall Pr F_ref11_Get [s.v] (.tup [some 5,none]) [.int .i64,.int .i64,.str,.int .i64,.int .i64,.int .i64] K):=by
  refine xlen (E:=U8) (xs:=xs) s fun _ hc=>?_
  refine xcall0 (rGet11_spec s xs hc (by omega)) rdb ?_
  rintro ⟨k,t,g,v,i,e,_⟩ _ ⟨⟨h2,h3⟩,rfl⟩
  simp only at h2 h3
  by_cases hz:(getM xs).2=0
  · obtain ⟨rfl,rfl,rfl,rfl,rfl⟩:=h3 hz
    obtain rfl:=h2.2 hz
    exact h0 hz
  · exact h1 hz _ _ _ _ _ _ fun e=>hz (h2.1 e)
theorem rinv0:RInv xm0:=⟨List.Pairwise.nil,fun y hy=>by simp at hy,.inl ⟨rfl,rfl⟩,by simp⟩
theorem openTo_rinv (l:LM) (h0:0≤l.lo):∀ k:Nat,k≤100000→RInv (openTo l k)∧(openTo l k).last<l.lo+k
  | 0,_=>⟨rinv0,by show (-1:Int)<_;omega⟩
  | k+1,hk=>by
    obtain ⟨h1,h2⟩:=openTo_rinv l h0 k (by omega)
    have hl:=openTo_len l k
    rw [openTo_succ]
    unfold stepX
    split
    · refine ⟨(rinv_put h1 (by omega) h2 (by omega)).1,?_⟩
      show (if l.lo+(k:Int)>(openTo l k).last then l.lo+(k:Int) else _)<_
      rw [if_pos h2];omega
    · exact ⟨h1,by omega⟩
end Go.Cx
namespace Go.Cx
open Go Go.Cf
set_option linter.unusedVariables false
set_option maxRecDepth 100000
variable {B:Base}{As F:List HP}{α:Type}
theorem xsub {s:ByteArray}{l h:Int}{K:ByteArray→WP}(h0:0≤l) (h1:l≤h) (h2:h≤s.size) (k:Ent B As (K (s.extract l.toNat h.toNat))):Ent B As (XSub s l h K):=fun w hw=>⟨h0,h1,h2,k w hw⟩
theorem rIsFile_spec (nm:ByteArray) (hs:nm.size≤1000000):Ct Pr F_ref14_IsFile [.string nm] .one [.bool] [] emp (fun t Bs=>t.1=isFileB nm.data.toList∧Bs=[]):=by
  refine spec1 c_ref14_IsFile fun B _=>?_
  have hsz:nm.data.toList.length=nm.size:=by rw [Array.length_toList];rfl
  generalize hl:nm.data.toList=l at *
  have hget:∀ k,k<l.length→∃ y:UInt8,l[k]? = some y:=fun k hk=>⟨_,List.getElem?_eq_getElem hk⟩
  unfold ref14_IsFile
  have hdef:isFileB l=(decide (5≤l.length)&&decide (l.length≤16)&&(l.take 4 == preL) && !(l[4]? == some 48)&&(l.drop 4).all isDig):=rfl
  refine xjoin1 (fun(c:Bool) As'=>c = !(decide (5≤l.length)&&decide (l.length≤16)&&(l.take 4 == preL))∧As'=[]) (fun K hK=>xif (fun h=>hK _ _ ⟨?_,rfl⟩) (fun h=>?_)) ?_
  · simp only [Bool.or_eq_true,decide_eq_true_eq] at h
    have:(decide (5≤l.length)&&decide (l.length≤16))=false:=by rw [Bool.eq_false_iff];simp;omega
    rw [this];rfl
  · simp only [Bool.or_eq_false_iff,decide_eq_false_iff_not] at h
    have:(decide (5≤l.length)&&decide (l.length≤16))=true:=by simp;omega
    refine xsub (by decide) (by decide) (by omega) (hK _ _ ⟨?_,rfl⟩)
    rw [this,Bool.true_and,ByteArray.toList_eq,ByteArray.toList_eq]
    congr 2
    show (nm.extract 0 4).data.toList=_
    rw [ByteArray.data_extract,Array.toList_extract,hl]
    simp
  rintro c _ ⟨rfl,rfl⟩
  refine xjoin1 (fun(c:Bool) As'=>c = !(decide (5≤l.length)&&decide (l.length≤16)&&(l.take 4 == preL) && !(l[4]? == some 48))∧As'=[]) (fun K hK=>xif (fun h=>hK _ _ ⟨?_,rfl⟩) (fun h=>?_)) ?_
  · simp only [Bool.not_eq_true'] at h
    rw [h];rfl
  · simp only [Bool.not_eq_false'] at h
    have h':=h
    simp only [Bool.and_eq_true,decide_eq_true_eq] at h'
    obtain ⟨y,hy⟩:=hget 4 (by omega)
    refine xbyte (k:=4) rfl (by rw [hl];exact hy) (hK _ _ ⟨?_,rfl⟩)
    rw [h,hy,Bool.true_and,Bool.not_not,Bool.eq_iff_iff]
    simp only [beq_iff_eq,Option.some.injEq]
    constructor
    · intro h2
      exact UInt8.toNat_inj.1 (by show y.toNat=48;omega)
    · rintro rfl;rfl
  rintro c _ ⟨rfl,rfl⟩
  refine xif (fun h=>?_) (fun h=>?_)
  · simp only [Bool.not_eq_true'] at h
    rw [hdef,h];exact xret ⟨rfl,rfl⟩
  simp only [Bool.not_eq_false'] at h
  rw [hdef,h,Bool.true_and]
  simp only [Bool.and_eq_true,decide_eq_true_eq] at h
  refine xloop1 (fun n (i:Int) As'=>∃ k:Nat,i=(k:Int)∧4≤k∧n=l.length - k∧k≤l.length∧(l.drop 4).all isDig=(l.drop k).all isDig∧As'=[]) (l.length - 4) ⟨4,rfl,by omega,rfl,by omega,rfl,rfl⟩ ?_
  rintro n _ _ K ⟨k,rfl,hk4,rfl,hk,he,rfl⟩ hK
  refine xif_dec (fun h2=>?_) (fun h2=>?_)
  · have hkl:k<l.length:=by omega
    obtain ⟨y,hy⟩:=hget k hkl
    have hdrop:l.drop k=y::l.drop (k+1):=by rw [List.drop_eq_getElem_cons hkl];congr 1;exact (List.getElem?_eq_some_iff.1 hy).2
    rw [hdrop,List.all_cons] at he
    refine xbyte (k:=k) rfl (by rw [hl];exact hy) ?_
    refine xjoin1 (fun(c:Bool) As'=>c = !(isDig y)∧As'=[]) (fun K1 hK1=>xif_dec (fun h3=>hK1 _ _ ⟨?_,rfl⟩) (fun h3=>xbyte (k:=k) rfl (by rw [hl];exact hy) (hK1 _ _ ⟨?_,rfl⟩))) ?_
    · unfold isDig;rw [Bool.eq_iff_iff];simp [UInt8.le_iff_toNat_le];omega
    · unfold isDig;rw [Bool.eq_iff_iff];simp [UInt8.le_iff_toNat_le];omega
    rintro c _ ⟨rfl,rfl⟩
    refine xif (fun h4=>?_) (fun h4=>?_)
    · rw [he,show isDig y=false by simpa using h4];exact xret ⟨rfl,rfl⟩
    · rw [show isDig y=true by simpa using h4,Bool.true_and] at he
      rw [wrap_succ k (by omega)]
      exact hK (l.length - (k+1)) _ _ (by omega) ⟨k+1,rfl,by omega,rfl,by omega,he,rfl⟩
  · have:l.drop k=[]:=List.drop_eq_nil_of_le (by omega)
    rw [this] at he
    rw [he];exact xret ⟨rfl,rfl⟩
theorem read_there (m:DM) (nm:ByteArray):(readM m nm).2≠0↔thereL m.fs nm.toList=false:=by
  unfold readM
  cases h:thereL m.fs nm.toList with
  | true=>simp
  | false=>simp
theorem rHead_spec (p:Option Addr) (m:DM):Ct Pr F_ref14_Head [.pointer p] (.tup [none,none,none]) [.int .i64,.int .i64,.int .i64] [RefDev p m] emp
    (fun t Bs=>t.1=(headM m).1∧t.2.1=(headM m).2.1∧t.2.2.1=(headM m).2.2∧Bs=[RefDev p m]):=by
  refine spec3 c_ref14_Head fun B _=>?_
  unfold ref14_Head
  refine xfact 0 (P1:=RefDev p m) (fun g hg=>hg.1) fun hI=>?_
  have hlen:=read_len hI headN
  refine xcl (rFind_spec p m headN) rdb ?_
  rintro ⟨t,_⟩ _ ⟨ht,rfl⟩
  simp only at ht;subst ht
  unfold headM
  refine app1 (ca1 (xif (fun h=>?_) (fun h=>?_)))
  · rw [fIdx_neg] at h
    rw [if_pos ((read_there m headN).2 (by simpa using h))]
    exact xuse [RefDev p m] (xret ⟨rfl,rfl,rfl,rfl⟩)
  rw [fIdx_neg] at h
  rw [if_neg (fun e=>by have:=(read_there m headN).1 e;rw [this] at h;cases h)]
  refine xcl (rRead_spec p m headN) rdb ?_
  rintro ⟨s,r,_⟩ _ ⟨hr,rfl⟩
  simp only at hr;subst hr
  refine app2 (ca2 ?_)
  refine xlen s fun hsl hsc=>?_
  replace hsl:(readM m headN).1.length=s.n:=hsl
  refine xcl (pre:=[]) (rGet13_spec s (readM m headN).1 (by omega) hsc) rdb ?_
  rintro ⟨s1,r1,r2,_⟩ _ ⟨h1,h2,rfl⟩
  simp only at h1 h2;subst h1 h2
  generalize hx:(readM m headN).1=xs at *
  generalize hg:getN xs=gx at *
  obtain ⟨pl,u,e⟩:=gx
  refine app1 (ca3 ?_)
  refine xlen s1 fun hl1 hc1=>?_
  replace hl1:pl.length=s1.n:=hl1
  replace hsl:xs.length=s.n:=hsl
  have hcond:(((e != 0)||(((u:Nat):Int) != (s.n:Int)))||(((s1.n:Int)) != 16))=decide (e≠0∨u≠xs.length∨pl.length≠16):=by
    rw [Bool.eq_iff_iff]
    simp only [Bool.or_eq_true,bne_iff_ne,ne_eq,decide_eq_true_eq]
    omega
  simp only
  rw [hcond]
  refine xif_dec (fun h3=>?_) (fun h3=>?_)
  · rw [if_pos h3]
    exact xuse [RefDev p m] (xret ⟨rfl,rfl,rfl,rfl⟩)
  rw [if_neg h3]
  have hp16:pl.length=16:=by
    by_cases e:pl.length=16
    · exact e
    · exact absurd (.inr (.inr e)) h3
  rw [show (0:Int)=((0:Nat):Int) from rfl]
  refine xcl (pre:=[]) (rGet02_spec s1 pl 0 (by omega) (by omega)) rdb ?_
  rintro ⟨x,_,_⟩ _ ⟨hx1,_,rfl⟩
  simp only at hx1;subst hx1
  refine app0 (ca2 ?_)
  rw [show (8:Int)=((8:Nat):Int) from rfl]
  refine xcl (pre:=[]) (rGet02_spec s1 pl 8 (by omega) (by omega)) rdb ?_
  rintro ⟨y,_,_⟩ _ ⟨hy1,_,rfl⟩
  simp only at hy1;subst hy1
  refine app0 (ca2 ?_)
  have hcond2:(((decide (((beV (cut8 pl 0):Nat):Int)<1))||(decide (((beV (cut8 pl 0):Nat):Int)>999999999999)))||(decide (((beV (cut8 pl 8):Nat):Int)>1099511627776)))=decide (beV (cut8 pl 0)<1∨beV (cut8 pl 0)>999999999999∨beV (cut8 pl 8)>1099511627776):=by
    rw [Bool.eq_iff_iff]
    simp only [Bool.or_eq_true,decide_eq_true_eq];omega
  rw [hcond2]
  refine xif_dec (fun h4=>?_) (fun h4=>?_)
  · rw [if_pos h4]
    exact xuse [RefDev p m] (xret ⟨rfl,rfl,rfl,rfl⟩)
  rw [if_neg h4,wrap_id _ (by omega) (by omega),wrap_id _ (by omega) (by omega)]
  exact xuse [RefDev p m] (xret ⟨rfl,rfl,rfl,rfl⟩)
end Go.Cx
namespace Go.Cx
open Go Go.Cf
set_option linter.unusedVariables false
set_option maxRecDepth 100000
variable {B:Base}{As F:List HP}{α:Type}
theorem drop_code {m:DM}{nm:ByteArray}(h:(dropM m nm).2≠0):(dropM m nm).2=10:=by
  cases hd:m.down with
  | true=>
    have:removeM m nm=(m,10):=by unfold removeM;exact on_down hd _ _
    unfold dropM;rw [this];rfl
  | false=>
    cases ht:thereL m.fs nm.toList with
    | true=>
      rw [drop_there hd ht] at h ⊢
      unfold removeM onFile at h ⊢
      rw [if_neg (by rw [hd];decide),if_neg (by rw [ht];decide)] at h ⊢
      rcases spent_code (m:=m) (g:=fun m'=>{ m' with fs:=m'.fs.eraseIdx (findL m.fs nm.toList) }) with e | e
      · exact absurd e h
      · exact e
    | false=>rw [drop_none hd ht] at h;exact absurd rfl h
theorem drop_alive {m:DM}{nm:ByteArray}(hI:DInv m) (hd:m.down=false) (h:(dropM m nm).2=0):(dropM m nm).1.down=false:=by
  cases ht:thereL m.fs nm.toList with
  | true=>
    rw [drop_there hd ht] at h ⊢
    rw [getF_there hI.sorted] at ht
    obtain ⟨f,hf⟩:=Option.isSome_iff_exists.1 ht
    rcases remove_or hI hd hf with e | e
    · rw [e.2] at h;cases h
    · rw [e.down,hd]
  | false=>rw [drop_none hd ht];exact hd
theorem mend_alive {m:DM}(hI:DInv m) (hd:m.down=false) {n:Int}(ht:thereL m.fs (fN n).toList=true) (h:(mendM m n).2=0):(mendM m n).1.down=false:=by
  have hs:=ht
  rw [getF_there hI.sorted] at hs
  obtain ⟨f,hf⟩:=Option.isSome_iff_exists.1 hs
  have hu:=scan_len (readM m (fN n)).1
  have hr:=read_some hI hf
  unfold mendM at h ⊢
  simp only at h ⊢
  by_cases hc:(scanN (readM m (fN n)).1).2<(readM m (fN n)).1.length
  · rw [if_pos hc] at h ⊢
    have hfl:(readM m (fN n)).1=f.b:=by rw [hr]
    rw [hfl] at h ⊢ hu hc
    rcases trunc_or hI hd hf (n:=((scanN f.b).2:Int)) (by omega) (by omega) with e | e
    · rw [e.2] at h;simp at h
    · rw [if_neg (by rw [e.err];decide)] at h ⊢
      have hI2:=trunc_inv hI (fN n) ((scanN f.b).2:Int)
      have hd2:=e.down
      rw [hd] at hd2
      have hg:(getF (truncM m (fN n) ((scanN f.b).2:Int)).1.fs (fN n).toList).isSome=true:=by
        obtain ⟨h1,h2⟩:=getF_at hI.sorted hf
        rw [e.files,getF_set hI.sorted h2 (g:={ f with b:=f.b.take ((scanN f.b).2:Int).toNat,sy:=if ((scanN f.b).2:Int)<f.sy then ((scanN f.b).2:Int) else f.sy }) rfl,if_pos (getF_key hf).symm];rfl
      obtain ⟨f2,hf2⟩:=Option.isSome_iff_exists.1 hg
      rcases sync_or hI2 hd2 hf2 with e2 | e2
      · rw [e2.2] at h;cases h
      · rw [e2.down,hd2]
  · rw [if_neg hc,if_neg (by simp)] at h ⊢
    simp only at h ⊢
    rcases sync_or hI hd hf with e2 | e2
    · rw [e2.2] at h;cases h
    · rw [e2.down,hd]
def rreadPost (b:Nat) (p:Option Addr) (m1:DM) (n0 f0:Int):Tup [.int .i64]→List HP→Prop:=fun t Bs=>
  ∃ m' l',readL 70 m1 n0 ⟨n0,f0,[],0⟩=(m',l',t.1)∧((t.1≠0∧Bs=[RefDev p m'])∨(t.1=0∧ReadI n0 f0 m' l'∧m'.down=false∧l'.lo=f0∧∃ s cs,s.n=cs.length∧RF cs l'.segs∧Bs=[Blk b (rlogCells p n0 f0 0 s),Ar RSG s cs,Each RSegR cs l'.segs,RefDev p m']))
theorem rread_spec (b:Nat) (p:Option Addr) (m1:DM) (n0 f0:Int) (hd:m1.down=false) (hI:DInv m1) (hb1:1≤n0∧n0≤999999999999) (hb2:0≤f0∧f0≤1099511627776) :
    Ct Pr F_ref14_Log_read [.pointer (some ⟨b,0,none⟩)] .one [.int .i64] [Blk b (rlogCells p n0 f0 0 ⟨none,0,0⟩),RefDev p m1] emp (rreadPost b p m1 n0 f0):=by
  refine spec1 c_ref14_Log_read fun B _=>?_
  unfold ref14_Log_read
  refine xnone RSG ?_
  refine xadd (A:=Each RSegR [] []) trivial ?_
  have hstart:=ReadI.start (n0:=n0) hI hb2
  generalize hR0:readL 70 m1 n0 ⟨n0,f0,[],0⟩=R0
  have fin:∀ {As:List HP}{e:Int},(∀ t:Tup [.int .i64],t.1=e→True)→True:=fun _=>trivial
  refine xuse [Blk b (rlogCells p n0 f0 0 ⟨none,0,0⟩),Ar RSG ⟨none,0,0⟩ [],Each RSegR [] [],RefDev p m1] ?_
  refine xloop0 (fun fuel As'=>∃ (m':DM) (l':LM) (s:Sl) (cs:List CR),fuel+l'.segs.length=70∧R0=readL fuel m' (n0+l'.segs.length) l'∧ReadI n0 f0 m' l'∧m'.down=false∧l'.lo=f0∧s.n=cs.length∧RF cs l'.segs∧As'=[Blk b (rlogCells p n0 f0 0 s),Ar RSG s cs,Each RSegR cs l'.segs,RefDev p m']) 70 ⟨m1,⟨n0,f0,[],0⟩,⟨none,0,0⟩,[],rfl,by simpa using hR0.symm,hstart,hd,rfl,rfl,⟨rfl,fun i c s h=>by simp at h⟩,rfl⟩ ?_
  rintro fuel _ K2 ⟨m',l',s,cs,hfu,heq,hR,hdn,hlo,hsn,hrf,rfl⟩ hK2
  have hfew:=hR.few hb1.1
  obtain ⟨fuel,rfl⟩:∃ k,fuel=k+1:=⟨fuel - 1,by omega⟩
  have hcl:=hrf.len
  have hlen:=read_len hR.inv (fN (n0+l'.segs.length))
  refine xdraw (xnil (xget (h:=xnil (xget (h:=?_)))))
  rw [wrap_id (n0+(s.n:Int)) (by omega) (by omega),show n0+(s.n:Int)=n0+(l'.segs.length:Int) by omega]
  refine xname (by omega) (by omega) (xnil (xget (h:=?_)))
  refine xcl (rFind_spec p m' (fN (n0+l'.segs.length))) rdb ?_
  rintro ⟨t,_⟩ _ ⟨ht,rfl⟩
  simp only at ht;subst ht
  rw [readL] at heq
  refine app1 (ca1 (xif (fun h4=>?_) (fun h4=>?_)))
  · rw [fIdx_neg] at h4
    rw [if_pos ((read_there m' _).2 (by simpa using h4))] at heq
    refine xuse [Blk b (rlogCells p n0 f0 0 s),Ar RSG s cs,Each RSegR cs l'.segs,RefDev p m'] (xret ⟨m',l',hR0.trans heq,.inr ⟨rfl,hR,hdn,hlo,s,cs,hsn,hrf,rfl⟩⟩)
  rw [fIdx_neg] at h4
  have hth:thereL m'.fs (fN (n0+l'.segs.length)).toList=true:=by simpa using h4
  have hnr:¬ (readM m' (fN (n0+l'.segs.length))).2≠0:=fun e=>by have:=(read_there m' _).1 e;rw [this] at hth;cases hth
  rw [if_neg hnr] at heq
  have hmore:=hR.more hb1.1 (by simpa using hnr)
  have halive:=mend_alive hR.inv hdn hth
  refine xnil (xget (h:=?_))
  refine xcl (rRead_spec p m' (fN (n0+l'.segs.length))) rdb ?_
  rintro ⟨s1,r,_⟩ _ ⟨_,rfl⟩
  refine app2 (ca2 ?_)
  refine xlen s1 fun hsl hsc=>?_
  replace hsl:(readM m' (fN (n0+l'.segs.length))).1.length=s1.n:=hsl
  refine xcl (pre:=[]) (rScan_spec s1 (readM m' (fN (n0+l'.segs.length))).1 hlen hsc) rdb ?_
  rintro ⟨s2,r1,_⟩ _ ⟨h5,rs,rfl⟩
  simp only at h5;subst h5
  have hsu:=scan_len (readM m' (fN (n0+l'.segs.length))).1
  have hme:mendM m' (n0+l'.segs.length)=(let t:=if (scanN (readM m' (fN (n0+l'.segs.length))).1).2<(readM m' (fN (n0+l'.segs.length))).1.length then truncM m' (fN (n0+l'.segs.length)) (scanN (readM m' (fN (n0+l'.segs.length))).1).2 else (m',0);if t.2≠0 then t else syncM t.1 (fN (n0+l'.segs.length))):=rfl
  generalize hbs:(readM m' (fN (n0+l'.segs.length))).1=bs at *
  generalize hrows:(scanN bs).1=rows at *
  generalize hu:(scanN bs).2=u at *
  simp only [hrows,hu] at heq
  simp only at hme
  refine app2 (ca2 ?_)
  refine xjoin0 (fun As'=>∃ m2:DM,mendM m' (n0+l'.segs.length)=syncM m2 (fN (n0+l'.segs.length))∧As'=[Blk b (rlogCells p n0 f0 0 s),Ar RSG s cs,Each RSegR cs l'.segs,RefDev p m2,Ar SL s2 rs,Each (Ar U8) rs rows]) (fun K3 hK3=>?_) ?_
  · refine xif_dec (fun h5=>?_) (fun h5=>?_)
    · replace h5:u<bs.length:=by omega
      rw [if_pos h5] at hme
      refine xnil (xget (h:=?_))
      refine xcl (rTruncate_spec p m' (fN (n0+l'.segs.length)) (u:Int)) rdb ?_
      rintro ⟨t,_⟩ _ ⟨ht,rfl⟩
      simp only at ht;subst ht
      refine app1 (ca1 (xif (fun h6=>?_) (fun h6=>?_)))
      · have h6:(truncM m' (fN (n0+l'.segs.length)) (u:Int)).2≠0:=by simpa using h6
        rw [if_pos h6] at hme
        rw [hme,if_pos h6] at heq
        exact xuse [RefDev p (truncM m' (fN (n0+l'.segs.length)) (u:Int)).1] (xret ⟨_,_,hR0.trans heq,.inl ⟨h6,rfl⟩⟩)
      · have h6:¬ (truncM m' (fN (n0+l'.segs.length)) (u:Int)).2≠0:=by simpa using h6
        rw [if_neg h6] at hme
        exact xuse [Blk b (rlogCells p n0 f0 0 s),Ar RSG s cs,Each RSegR cs l'.segs,RefDev p (truncM m' (fN (n0+l'.segs.length)) (u:Int)).1,Ar SL s2 rs,Each (Ar U8) rs rows] (hK3 _ ⟨_,hme,rfl⟩)
    · replace h5:¬ u<bs.length:=by omega
      rw [if_neg h5] at hme
      rw [if_neg (by simp)] at hme
      exact xuse [Blk b (rlogCells p n0 f0 0 s),Ar RSG s cs,Each RSegR cs l'.segs,RefDev p m',Ar SL s2 rs,Each (Ar U8) rs rows] (hK3 _ ⟨_,hme,rfl⟩)
  rintro As2 ⟨m2,hm2,rfl⟩
  rw [hm2] at heq hmore halive
  refine xnil (xget (h:=?_))
  refine xcl (rSync_spec p m2 (fN (n0+l'.segs.length))) rdb ?_
  rintro ⟨t,_⟩ _ ⟨ht,rfl⟩
  simp only at ht;subst ht
  refine app1 (ca1 (xif (fun h6=>?_) (fun h6=>?_)))
  · have h6:(syncM m2 (fN (n0+l'.segs.length))).2≠0:=by simpa using h6
    rw [if_pos h6] at heq
    exact xuse [RefDev p (syncM m2 (fN (n0+l'.segs.length))).1] (xret ⟨_,_,hR0.trans heq,.inl ⟨h6,rfl⟩⟩)
  have h6:¬ (syncM m2 (fN (n0+l'.segs.length))).2≠0:=by simpa using h6
  have hd3:=halive (by simpa using h6)
  rw [if_neg h6] at heq
  generalize (syncM m2 (fN (n0+l'.segs.length))).1=m3 at *
  refine xdraw (xnil (xget (h:=xnil (xget (h:=xnil (xget (h:=?_)))))))
  rw [wrap_id (n0+(s.n:Int)) (by omega) (by omega),show n0+(s.n:Int)=n0+(l'.segs.length:Int) by omega]
  refine xnew fun b1=>?_
  refine xapp1 (E:=RSG) ((n0+l'.segs.length,(u:Int),s2):CR) (hb:=by omega) (h:=fun s5=>xnil (xset (h:=?_)))
  generalize hL:({ l' with segs:=l'.segs++[⟨n0+l'.segs.length,l'.next,(u:Int),rows⟩] }:LM)=L at *
  have hLs:L.segs=l'.segs++[⟨n0+l'.segs.length,l'.next,(u:Int),rows⟩]:=by rw [←hL]
  have hLlo:L.lo=f0:=by
    unfold LM.lo at hlo ⊢
    rw [hLs]
    cases e:l'.segs with
    | nil=>
      rw [e] at hlo
      show l'.next=f0
      unfold LM.next LM.cur
      rw [e];exact hlo
    | cons a r=>rw [e] at hlo;exact hlo
  refine xfold [Ar SL s2 rs,Each (Ar U8) rs rows] (RSegR (n0+l'.segs.length,(u:Int),s2) ⟨n0+l'.segs.length,l'.next,(u:Int),rows⟩) (fun g hg=>⟨rfl,rfl,rs,hg⟩) ?_
  refine xfold [Each RSegR cs l'.segs,RSegR (n0+l'.segs.length,(u:Int),s2) ⟨n0+l'.segs.length,l'.next,(u:Int),rows⟩] (Each RSegR (cs++[(n0+l'.segs.length,(u:Int),s2)]) L.segs) (fun g hg=>by rw [hLs];exact each_snoc hg) ?_
  refine xuse [Blk b (rlogCells p n0 f0 0 s5),Ar RSG s5 (cs++[(n0+l'.segs.length,(u:Int),s2)]),Each RSegR (cs++[(n0+l'.segs.length,(u:Int),s2)]) L.segs,RefDev p m3] ?_
  refine xlen (E:=RSG) s5 fun hs5 _=>?_
  refine xfact 2 (P1:=Each RSegR (cs++[(n0+l'.segs.length,(u:Int),s2)]) L.segs) (p':=RF (cs++[(n0+l'.segs.length,(u:Int),s2)]) L.segs) (fun g hg=>rf_of hg) fun hrf2=>?_
  refine xif_dec (fun h7=>?_) (fun h7=>?_)
  · replace h7:u<bs.length:=by omega
    rw [if_pos h7] at heq
    exact xret ⟨m3,L,hR0.trans heq,.inr ⟨rfl,hmore,hd3,hLlo,s5,_,hs5.symm,hrf2,rfl⟩⟩
  · replace h7:¬ u<bs.length:=by omega
    rw [if_neg h7] at heq
    have hLl:L.segs.length=l'.segs.length+1:=by rw [hLs];simp
    exact hK2 fuel _ (by omega) ⟨m3,L,s5,_,by omega,by rw [heq,hLl];congr 1;omega,hmore,hd3,hLlo,hs5.symm,hrf2,rfl⟩
end Go.Cx
namespace Go.Cx
open Go Go.Cf
set_option linter.unusedVariables false
set_option maxRecDepth 100000
variable {B:Base}{As F:List HP}{α:Type}
def ropenPost (p:Option Addr) (m:DM):Tup [.ptr,.int .i64]→List HP→Prop:=fun t Bs=>
  (∃ l b,(openM m).2.1=some l∧(openM m).2.2=0∧t.1=some ⟨b,0,none⟩∧t.2.1=0∧Bs=[RLogObj (some ⟨b,0,none⟩) p l,RefDev p (openM m).1]) ∨
  ((openM m).2.1=none∧(openM m).2.2≠0∧t.1=none∧t.2.1=(openM m).2.2∧Bs=[RefDev p (openM m).1])
theorem nms_nodup {fs:List DF}(hs:Sorted fs) {i j:Nat}{a b:ByteArray}(hi:(fs.map (·.nm))[i]? = some a) (hj:(fs.map (·.nm))[j]? = some b) (hne:i≠j):a.toList≠b.toList:=by
  rw [List.getElem?_map] at hi hj
  obtain ⟨f,hf,rfl⟩:=Option.map_eq_some_iff.1 hi
  obtain ⟨g,hg,rfl⟩:=Option.map_eq_some_iff.1 hj
  intro e
  exact hne (key_uniq hs hf hg e)
theorem rOpen14_spec (p:Option Addr) (m:DM):Ct Pr F_ref14_Open [.pointer p] (.tup [none,none]) [.ptr,.int .i64] [RefDev p m] emp (ropenPost p m):=by
  refine spec2 c_ref14_Open fun B _=>?_
  unfold ref14_Open
  refine xfact 0 (P1:=RefDev p m) (fun g hg=>hg.1) fun hI0=>?_
  refine xroff (xif (fun hd=>?_) (fun hd=>?_))
  · have hr:removeM m newN=(m,10):=by unfold removeM;exact on_down hd _ _
    have hdr:dropM m newN=(m,10):=by unfold dropM;rw [hr];rfl
    have e:=open_e1 (m:=m) (by rw [hdr];simp)
    rw [hdr] at e
    exact xret (.inr ⟨by rw [e],by rw [e];simp,rfl,by rw [e],by rw [e]⟩)
  refine xcl (rFind_spec p m newN) rdb ?_
  rintro ⟨t,_⟩ _ ⟨ht,rfl⟩
  simp only at ht;subst ht
  refine app1 (ca1 ?_)
  refine xjoin1 (fun(c:Bool) As'=>(c=true↔(dropM m newN).2≠0)∧As'=[RefDev p (dropM m newN).1]) (fun K1 hK1=>?_) ?_
  · cases ht:thereL m.fs newN.toList with
    | true=>
      refine xift (by rw [fIdx_yes ht];simp) ?_
      refine xcl (rRemove_spec p m newN) rdb ?_
      rintro ⟨t,_⟩ _ ⟨ht2,rfl⟩
      simp only at ht2;subst ht2
      rw [drop_there hd ht] at hK1
      exact app1 (ca1 (hK1 _ _ ⟨by simp,rfl⟩))
    | false=>
      refine xiff (by rw [fIdx_no ht];rfl) ?_
      rw [drop_none hd ht] at hK1
      exact hK1 _ _ ⟨by simp,rfl⟩
  rintro c _ ⟨hc,rfl⟩
  refine xif (fun h=>?_) (fun h=>?_)
  · have h:=hc.1 h
    have e:=open_e1 h
    rw [drop_code h] at e
    exact xret (.inr ⟨by rw [e],by rw [e];simp,rfl,by rw [e],by rw [e]⟩)
  have h1:¬ (dropM m newN).2≠0:=fun e=>by rw [hc.2 e] at h;cases h
  have hd1:=drop_alive hI0 hd (nm:=newN) (by simpa using h1)
  refine xcl (rHead_spec p (dropM m newN).1) rdb ?_
  rintro ⟨t,t1,t2,_⟩ _ ⟨ht,ht1,ht2,rfl⟩
  simp only at ht ht1 ht2;subst ht ht1 ht2
  refine app1 (ca3 (xif (fun h=>?_) (fun h=>?_)))
  · have h:(headM (dropM m newN).1).2.2≠0:=by simpa using h
    have e:=open_e2 h1 h
    exact xret (.inr ⟨by rw [e],by rw [e];exact h,rfl,by rw [e],by rw [e]⟩)
  have h2:¬ (headM (dropM m newN).1).2.2≠0:=by simpa using h
  have he3:=fun {m' l e} h3 he=>open_e3 (m:=m) h1 h2 (m':=m') (l:=l) (e:=e) h3 he
  have he4:=fun {m' l} h3 {w} hw=>open_e4 (m:=m) h1 h2 (m':=m') (l:=l) h3 (w:=w) hw
  have hb:=head_bounds (dropM m newN).1 (by simpa using h2)
  refine xfact 0 (P1:=RefDev p (dropM m newN).1) (fun g hg=>hg.1) fun hI=>?_
  generalize hm1:(dropM m newN).1=m1 at *
  generalize hn0:(headM m1).1=n0 at *
  generalize hf0:(headM m1).2.1=f0 at *
  obtain ⟨hb1,hb2⟩:=hb
  refine xnew fun b=>?_
  refine xcl (rread_spec b p m1 n0 f0 hd1 hI hb1 hb2) rdb ?_
  rintro ⟨e,_⟩ Bs ⟨m',l',heq,hpost⟩
  simp only at heq hpost
  rcases hpost with ⟨he,rfl⟩ | ⟨rfl,hR,hdn,hlo,s,cs,hsn,hrf,rfl⟩
  · have e2:=he3 heq he
    exact app1 (ca1 (xift (by simpa using he) (xret (.inr ⟨by rw [e2],by rw [e2];exact he,rfl,by rw [e2],by rw [e2]⟩))))
  refine app4 (ca1 (xiff rfl ?_))
  have hLI:=hR.linv hb1 hb2
  have hfin:=he4 heq rfl
  have hfew:=hR.few hb1.1
  have hI':=hR.inv
  have hnl:=hI'.len
  have hcl:=hrf.len
  have hnames:∀ nm∈m'.fs.map (·.nm),nm.size≤16:=by
    intro nm hnm
    obtain ⟨f,hf,rfl⟩:=List.mem_map.1 hnm
    have:=hI'.names f hf
    unfold namedB at this
    simp only [Bool.and_eq_true,decide_eq_true_eq] at this
    omega
  refine xcl (rNames_spec p m') rdb ?_
  rintro ⟨s4,_⟩ _ rfl
  refine app2 (ca1 ?_)
  have hnl:(m'.fs.map (·.nm)).length≤64:=by rw [List.length_map];exact hnl
  have hnd:=fun {i j a b} hi hj hne=>nms_nodup hI'.sorted (i:=i) (j:=j) (a:=a) (b:=b) hi hj hne
  have hall:∀ (i:Nat) nm,(m'.fs.map (·.nm))[i]? = some nm→(getF m'.fs nm.toList).isSome=true:=by
    intro i nm h
    rw [List.getElem?_map] at h
    obtain ⟨f,hf,rfl⟩:=Option.map_eq_some_iff.1 h
    rw [(getF_iff hI'.sorted).2 ⟨List.mem_of_getElem? hf,rfl⟩];rfl
  generalize hN:m'.fs.map (·.nm)=nms at *
  refine xlen s4 fun hl4 _=>?_
  replace hl4:nms.length=s4.n:=hl4
  refine xuse [Blk b (rlogCells p n0 f0 0 s),Ar RSG s cs,Each RSegR cs l'.segs,RefDev p m',Ar Cf.ST s4 nms] ?_
  refine xloop1 (fun mm (x:Int) As'=>∃ (k:Nat) (mk:DM),x=(k:Int)∧mm=nms.length - k∧k≤nms.length∧sweepM l' nms m'=sweepM l' (nms.drop k) mk∧DInv mk∧mk.down=false∧(∀ (i:Nat) nm,k≤i→nms[i]? = some nm→(getF mk.fs nm.toList).isSome=true)∧As'=[Blk b (rlogCells p n0 f0 0 s),Ar RSG s cs,Each RSegR cs l'.segs,RefDev p mk,Ar Cf.ST s4 nms]) nms.length ⟨0,m',rfl,rfl,by omega,rfl,hI',hdn,fun i nm _ h=>hall i nm h,rfl⟩ ?_
  rintro mm x As' K ⟨k,mk,rfl,rfl,hk,hsw,hIk,hdk,hallk,rfl⟩ hK
  refine xif_dec (fun hp=>?_) (fun hp=>?_)
  · have hp:k<nms.length:=by omega
    refine xidxn (E:=Cf.ST) (xs:=nms) (s:=s4) (h1:=hp) (h:=fun nm hnm=>?_)
    refine xgetE (E:=Cf.ST) (xs:=nms) hnm (h:=?_)
    have hsz:=hnames nm (List.mem_of_getElem? hnm)
    rw [sweep_step hnm] at hsw
    refine xcall0 (rIsFile_spec nm (by omega)) rdb ?_
    rintro ⟨c,_⟩ _ ⟨hc,rfl⟩
    obtain rfl:c=isFileB nm.data.toList:=hc
    refine app0 (ca1 ?_)
    refine xloop2 (fun n (mine:Bool) (x:Int) As'=>∃ j:Nat,x=(j:Int)∧n=cs.length - j∧j≤cs.length∧mine=(!(isFileB nm.data.toList)||(l'.segs.take j).any fun s=>fK s.n == nm.toList)∧As'=[Blk b (rlogCells p n0 f0 0 s),Ar RSG s cs,Each RSegR cs l'.segs,RefDev p mk,Ar Cf.ST s4 nms]) cs.length ⟨0,rfl,rfl,by omega,by simp,rfl⟩ ?_
    rintro n _ _ _ K2 ⟨j,rfl,rfl,hj,rfl,rfl⟩ hK2
    refine xnil (xget (h:=xif_dec (fun hq=>?_) (fun hq=>?_)))
    · have hj2:j<cs.length:=by omega
      have hc:=List.getElem?_eq_getElem hj2
      have hsg:=List.getElem?_eq_getElem (l:=l'.segs) (i:=j) (by omega)
      obtain ⟨g1,g2,g3,g4⟩:=hrf.each j _ _ hc hsg
      have hbx:=(hLI.segs _ (List.mem_of_getElem? hsg)).1
      have hRs:=(hR.segs j _ hsg).1
      generalize cs[j]=c at *
      generalize hsgE:l'.segs[j]'(by omega)=sg at *
      have hsn2:l'.segs.take (j+1)=l'.segs.take j++[sg]:=by rw [List.take_add_one,hsg];rfl
      refine xdraw (xjoin ?_)
      refine xif (fun hm=>?_) (fun hm=>?_)
      · rw [wrap_succ j (by omega)]
        refine hK2 (cs.length - (j+1)) _ _ _ (by omega) ⟨j+1,rfl,rfl,by omega,?_,rfl⟩
        rw [hsn2,List.any_append,←Bool.or_assoc,hm];rfl
      · refine xidxn (E:=Cf.ST) (xs:=nms) (s:=s4) (h1:=hp) (h:=fun _ _=>?_)
        refine xgetE (E:=Cf.ST) (xs:=nms) hnm (h:=xnil (xget (h:=?_)))
        refine xidxn (E:=RSG) (xs:=cs) (s:=s) (h1:=hj2) (h:=fun _ _=>?_)
        refine xgetE (E:=RSG) (xs:=cs) hc (h:=?_)
        rw [g1]
        refine xname (by omega) (by omega) ?_
        refine xchkE (E:=Cf.ST) (xs:=nms) hnm (h:=?_)
        rw [wrap_succ j (by omega)]
        refine hK2 (cs.length - (j+1)) _ _ _ (by omega) ⟨j+1,rfl,rfl,by omega,?_,rfl⟩
        rw [hsn2,List.any_append,←Bool.or_assoc,hm,Bool.false_or]
        simp only [List.any_cons,List.any_nil,Bool.or_false]
        rw [Bool.eq_iff_iff,beq_iff_eq,beq_iff_eq]
        exact eq_comm
    have hjl:j=l'.segs.length:=by omega
    rw [hjl,List.take_of_length_le (Nat.le_refl _)]
    have hkb:(!(isFileB nm.data.toList)||l'.segs.any fun s=>fK s.n == nm.toList)=keepB l' nm:=rfl
    rw [hkb]
    refine xjoin1 (fun(c:Bool) As'=>∃ mk2:DM,((c=true∧openM m=(mk2,none,10))∨(c=false∧sweepM l' nms m'=sweepM l' (nms.drop (k+1)) mk2∧DInv mk2∧mk2.down=false∧(∀ (i:Nat) nm,k+1≤i→nms[i]? = some nm→(getF mk2.fs nm.toList).isSome=true)))∧As'=[Blk b (rlogCells p n0 f0 0 s),Ar RSG s cs,Each RSegR cs l'.segs,RefDev p mk2,Ar Cf.ST s4 nms]) (fun K3 hK3=>?_) ?_
    · refine xif (fun hkp=>?_) (fun hkp=>?_)
      · have hkp:¬ keepB l' nm=true:=by simpa using hkp
        rw [if_neg hkp] at hsw
        refine xidxn (E:=Cf.ST) (xs:=nms) (s:=s4) (h1:=hp) (h:=fun _ _=>?_)
        refine xgetE (E:=Cf.ST) (xs:=nms) hnm (h:=?_)
        refine xcl (rRemove_spec p mk nm) rdb ?_
        rintro ⟨t,_⟩ _ ⟨ht,rfl⟩
        simp only at ht;subst ht
        refine app1 (ca1 (xuse [Blk b (rlogCells p n0 f0 0 s),Ar RSG s cs,Each RSegR cs l'.segs,RefDev p (removeM mk nm).1,Ar Cf.ST s4 nms] (hK3 _ _ ⟨_,?_,rfl⟩)))
        obtain ⟨f,hf⟩:=Option.isSome_iff_exists.1 (hallk k nm (Nat.le_refl _) hnm)
        rcases remove_or hIk hdk hf with e | e
        · left
          have h10:(removeM mk nm).2=10:=by rw [e.2]
          rw [if_pos (by rw [h10];decide)] at hsw
          rw [hsw,if_pos (by rw [h10];decide),h10] at hfin
          exact ⟨by rw [h10];rfl,hfin⟩
        · right
          rw [if_neg (by rw [e.err];decide)] at hsw
          refine ⟨by rw [e.err];rfl,hsw,remove_inv hIk nm,by rw [e.down,hdk],fun i nm2 hi h2=>?_⟩
          obtain ⟨q1,q2⟩:=getF_at hIk.sorted hf
          rw [e.files,getF_erase hIk.sorted q2,if_neg ?_]
          · exact hallk i nm2 (by omega) h2
          · have:=hnd h2 hnm (by omega)
            rw [getF_key hf];exact this
      · have hkp:keepB l' nm=true:=by simpa using hkp
        rw [if_pos hkp] at hsw
        exact hK3 _ _ ⟨mk,.inr ⟨rfl,hsw,hIk,hdk,fun i nm2 hi h2=>hallk i nm2 (by omega) h2⟩,rfl⟩
    rintro c _ ⟨mk2,hcc,rfl⟩
    rcases hcc with ⟨rfl,e⟩ | ⟨rfl,hsw2,hI2,hd2,hall2⟩
    · exact xift rfl (xuse [RefDev p mk2] (xret (.inr ⟨by rw [e],by rw [e];simp,rfl,by rw [e],by rw [e]⟩)))
    · refine xiff rfl ?_
      rw [wrap_succ k (by omega)]
      exact hK (nms.length - (k+1)) _ _ (by omega) ⟨k+1,mk2,rfl,rfl,by omega,hsw2,hI2,hd2,hall2,rfl⟩
  · obtain rfl:k=nms.length:=by omega
    rw [List.drop_length] at hsw
    have hsw:sweepM l' nms m'=(mk,0):=hsw
    rw [hsw,if_neg (by simp)] at hfin
    have hsafe:l'.safe=0:=hR.safe
    have hnr:=rNext_raw b p n0 l' s cs hsn hrf hLI
    rw [hlo,hsafe] at hnr
    refine xcl hnr rdb ?_
    rintro ⟨t,_⟩ _ ⟨ht,rfl⟩
    simp only at ht;subst ht
    refine app2 (ca1 (xnil (xset (h:=?_))))
    have hnx:=hLI.next
    have hfo:({ l' with safe:=l'.next }:LM).lo=f0:=hlo
    refine xfold [Blk b (rlogCells p n0 f0 l'.next s),Ar RSG s cs,Each RSegR cs l'.segs] (RLogObj (some ⟨b,0,none⟩) p { l' with safe:=l'.next }) (fun g hg=>⟨⟨hLI.n,hLI.first,hLI.segs,hLI.few,by simp only;omega,hLI.chain⟩,b,n0,s,cs,rfl,fun _=>hR.n.symm,by rw [hfo];exact hg⟩) ?_
    exact xuse [RLogObj (some ⟨b,0,none⟩) p { l' with safe:=l'.next },RefDev p mk] (xret (.inl ⟨_,b,by rw [hfin],by rw [hfin],rfl,rfl,by rw [hfin]⟩))
end Go.Cx
