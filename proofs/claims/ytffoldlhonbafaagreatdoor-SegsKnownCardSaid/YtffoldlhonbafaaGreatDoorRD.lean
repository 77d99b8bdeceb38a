/-
  The document's device: what its calls are made of.
  The document's device: its calls.
  The document's device: its longer calls.
  The document's frames and numbers.
-/
import Derived.Test.YtffoldlhonbafaaGreatDoorDK
namespace Go.Cx
open Go Go.Cf
set_option linter.unusedVariables false
variable {B:Base}{As:List HP}
def leftR (m:DM):Int:=if m.armed then m.left else -1
abbrev refCells (m:DM) (s:Sl):List Value:=[.int .i64 m.room,.int .i64 (leftR m),.bool m.down,s.v]
def RefDev (p:Option Addr) (m:DM):HP:=fun h=>DInv m∧∃ b s cs,p=some ⟨b,0,none⟩∧star [Blk b (refCells m s),Ar FILE s cs,Each FileR cs m.fs] h
theorem xrdev (i:Nat) {p:Option Addr}{m:DM}{F:List HP} [q:Pick i As (RefDev p m) F] {φ:WP}
    (k:DInv m→∀ b s cs,p=some ⟨b,0,none⟩→SF cs m.fs→s.n=cs.length→Ent B (Blk b (refCells m s)::Ar FILE s cs::Each FileR cs m.fs::F) φ):Ent B As φ:=by
  refine Ent.perm q.perm ?_
  intro w hw
  obtain ⟨g,⟨a,c,⟨hi,b,s,cs,hp,pa⟩,pc,d,sa,sc⟩,hm,hu⟩:=hw
  have hl:SF cs m.fs∧s.n=cs.length:=by
    obtain ⟨_,_,_,⟨_,_,⟨_,par⟩,⟨_,_,pe,_⟩,_⟩,_⟩:=pa
    exact ⟨sf_of pe,par.1.symm⟩
  exact k hi b s cs hp hl.1 hl.2 w ⟨g,(star_append [_,_,_] F).2 ⟨a,c,pa,pc,d,sa,sc⟩,hm,hu⟩
theorem xrdev_put (i j l:Nat) {P1 P2 P3:HP}{F F' F'':List HP} [p:Pick i As P1 F] [q:Pick j F P2 F'] [r:Pick l F' P3 F''] {φ:WP}(b:Nat) (s:Sl) (cs:List CF) (m:DM) (hi:DInv m)
    (h:∀ g,star [P1,P2,P3] g→star [Blk b (refCells m s),Ar FILE s cs,Each FileR cs m.fs] g) (k:Ent B (RefDev (some ⟨b,0,none⟩) m::F'') φ):Ent B As φ:=
  xfold3 i j l (fun g hg=>⟨hi,b,s,cs,rfl,h g hg⟩) k
theorem rNew_spec (room:Int):Ct Pr F_ref12_New [.int .i64 room] (.tup [none,none]) [.ptr,.int .i64] [] emp
    (fun t Bs=>(((room<0∨room>16777216)∧t.1=none∧t.2.1=3∧Bs=[])∨(0≤room∧room≤16777216∧t.2.1=0∧(∃ b,t.1=some ⟨b,0,none⟩)∧Bs=[RefDev t.1 ⟨false,false,0,room,[]⟩]))):=by
  refine spec2 c_ref12_New fun B _=>?_
  unfold ref12_New
  refine xif (fun h=>?_) (fun h=>?_)
  · refine xret (.inl ⟨?_,rfl,rfl,rfl⟩)
    simpa using h
  · have h':0≤room∧room≤16777216:=by simp at h;omega
    refine xnew fun b=>xnone FILE (xadd (A:=Each FileR [] []) trivial ?_)
    refine xrdev_put 2 1 0 b ⟨none,0,0⟩ [] ⟨false,false,0,room,[]⟩ ⟨List.Pairwise.nil,by simp,by simp,by simp [usedN];omega,h',by simp,⟨by simp,by simp⟩,fun h=>by cases h⟩ (fun _ h=>h) ?_
    exact xret (.inr ⟨h'.1,h'.2,rfl,⟨b,rfl⟩,rfl⟩)
abbrev rc (rm lf:Int) (dn:Bool) (s:Sl):List Value:=[.int .i64 rm,.int .i64 lf,.bool dn,s.v]
theorem xrdev_back (b:Nat) (s:Sl) (cs:List CF) {m:DM}{G:List HP} [q:Split [Blk b (refCells m s),Ar FILE s cs,Each FileR cs m.fs] As G] {φ:WP}
    (hi:DInv m) (k:Ent B (RefDev (some ⟨b,0,none⟩) m::G) φ):Ent B As φ:=
  xfold [Blk b (refCells m s),Ar FILE s cs,Each FileR cs m.fs] (RefDev (some ⟨b,0,none⟩) m) (fun g hg=>⟨hi,b,s,cs,rfl,hg⟩) k
theorem xjoin2 {s1 s2:Sh}{body:(s1.ty→s2.ty→WP)→WP}{rest:s1.ty→s2.ty→WP}(J:s1.ty→s2.ty→List HP→Prop) (h1:∀ K:s1.ty→s2.ty→WP,(∀ x y As',J x y As'→Ent B As' (K x y))→Ent B As (body K)) (h2:∀ x y As',J x y As'→Ent B As' (rest x y)) :
    Ent B As (XJoin [s1,s2] body rest):=h1 rest h2
theorem rNamed_spec (nm:ByteArray):Ct Pr F_ref12_Named [.string nm] .one [.bool] [] emp (fun t Bs=>t.1=namedB nm∧Bs=[]):=by
  refine spec1 c_ref12_Named fun B _=>?_
  unfold ref12_Named
  refine xret ⟨?_,rfl⟩
  have e:decide ((nm.size:Int)>0)=decide ((nm.size:Int)≥1):=decide_eq_decide.2 (by omega)
  show (decide ((nm.size:Int)>0)&&_)=_
  rw [e];rfl
def fIdx (fs:List DF) (nm:ByteArray):Int:=if thereL fs nm.toList then (findL fs nm.toList:Int) else -1
theorem fIdx_yes {fs:List DF}{nm:ByteArray}(h:thereL fs nm.toList=true):fIdx fs nm=(findL fs nm.toList:Int):=by simp [fIdx,h]
theorem fIdx_no {fs:List DF}{nm:ByteArray}(h:thereL fs nm.toList=false):fIdx fs nm = -1:=by simp [fIdx,h]
theorem fIdx_neg (fs:List DF) (nm:ByteArray):decide (fIdx fs nm<0) = !(thereL fs nm.toList):=by
  cases h:thereL fs nm.toList with
  | true=>rw [fIdx_yes h];simp
  | false=>rw [fIdx_no h];rfl
theorem rFind_raw (b:Nat) (rm lf:Int) (dn:Bool) (s:Sl) (cs:List CF) (fs:List DF) (nm:ByteArray) (hs:Sorted fs) (hn:SameNames cs fs) (hl:fs.length≤1000) :
    Ct Pr F_ref12_Device_Find [.pointer (some ⟨b,0,none⟩),.string nm] .one [.int .i64] [Blk b (rc rm lf dn s),Ar FILE s cs] emp (fun t Bs=>t.1=fIdx fs nm∧Bs=[Blk b (rc rm lf dn s),Ar FILE s cs]):=by
  refine spec1 c_ref12_Device_Find fun B _=>?_
  unfold ref12_Device_Find
  obtain ⟨hcl,hnm⟩:=hn
  refine xlen s fun hn1 _=>?_
  refine xloop1 (fun n i As=>∃ k:Nat,i=(k:Int)∧n=fs.length - k∧k≤fs.length∧(∀ t f,t<k→fs[t]? = some f→f.key≠nm.toList)∧As=[Blk b (rc rm lf dn s),Ar FILE s cs]) fs.length ⟨0,rfl,rfl,by omega,fun t f h=>by omega,rfl⟩ ?_
  rintro n _ _ K ⟨k,rfl,rfl,hk,hno,rfl⟩ hK
  refine xnil (xget (h:=xif_dec (fun h=>?_) (fun h=>?_)))
  · have hf:=List.getElem?_eq_getElem (l:=fs) (i:=k) (by omega)
    have hc:=List.getElem?_eq_getElem (l:=cs) (i:=k) (by omega)
    have hnm':=hnm _ _ _ hc hf
    refine xnil (xget (h:=?_))
    refine xidxn (h1:=by omega) (h:=fun _ _=>?_)
    refine xgetE hc (h:=?_)
    refine xif (fun g=>?_) (fun g=>?_)
    · have hk':fs[k].key=nm.toList:=by rw [DF.key,←hnm'];simpa using g
      obtain ⟨h1,h2⟩:=find_unique hs hf hk'
      exact xret ⟨by rw [fIdx_yes h2,h1],rfl⟩
    · rw [wrap_succ k (by omega)]
      refine hK (fs.length - (k+1)) _ _ (by omega) ⟨k+1,rfl,rfl,by omega,fun t f ht hft=>?_,rfl⟩
      rcases Nat.lt_or_ge t k with h' | h'
      · exact hno t f h' hft
      · obtain rfl:t=k:=by omega
        rw [hf] at hft;cases hft;rw [DF.key,←hnm'];simpa using g
  · have:k=fs.length:=by omega
    subst this
    have ht:thereL fs nm.toList=false:=by
      cases ht:thereL fs nm.toList with
      | false=>rfl
      | true=>
        obtain ⟨f,h1,h2⟩:=there_get ht
        exact absurd h2 (hno _ f (List.getElem?_eq_some_iff.1 h1).1 h1)
    exact xret ⟨by rw [fIdx_no ht],rfl⟩
theorem rUsed_raw (b:Nat) (lf:Int) (dn:Bool) (s:Sl) (cs:List CF) (m:DM) (hi:DInv m) (sf:SF cs m.fs) :
    Ct Pr F_ref12_Device_Used [.pointer (some ⟨b,0,none⟩)] .one [.int .i64] [Blk b (rc m.room lf dn s),Ar FILE s cs] emp (fun t Bs=>t.1=(usedN m.fs:Int)∧Bs=[Blk b (rc m.room lf dn s),Ar FILE s cs]):=by
  refine spec1 c_ref12_Device_Used fun B _=>?_
  unfold ref12_Device_Used
  have hu:=hi.used
  have hroom:=hi.room
  have hlen:=hi.len
  refine xlen s fun hn _=>?_
  refine xloop2 (fun n u i As=>∃ k:Nat,i=(k:Int)∧u=(usedN (m.fs.take k):Int)∧n=m.fs.length - k∧k≤m.fs.length∧As=[Blk b (rc m.room lf dn s),Ar FILE s cs]) m.fs.length ⟨0,rfl,rfl,rfl,by omega,rfl⟩ ?_
  rintro n _ _ _ K ⟨k,rfl,rfl,rfl,hk,rfl⟩ hK
  have hcl:=sf.len
  refine xnil (xget (h:=xif_dec (fun h=>?_) (fun h=>?_)))
  · have hf:=List.getElem?_eq_getElem (l:=m.fs) (i:=k) (by omega)
    have hc:=List.getElem?_eq_getElem (l:=cs) (i:=k) (by omega)
    obtain ⟨_,_,h3,_⟩:=sf.each _ _ _ hc hf
    have e:=usedN_take m.fs k (by omega)
    have hle:=usedN_take_le m.fs (k+1)
    refine xnil (xget (h:=?_))
    refine xidxn (h1:=by omega) (h:=fun _ _=>?_)
    refine xgetEj hc (h:=?_)
    rw [wrap_succ k (by omega),h3,wrap_id _ (by omega) (by omega)]
    refine hK (m.fs.length - (k+1)) _ _ _ (by omega) ⟨k+1,rfl,?_,rfl,by omega,rfl⟩
    rw [e];show (_:Int)=_;simp
  · have:k=m.fs.length:=by omega
    subst this
    refine xret ⟨?_,rfl⟩
    rw [List.take_length]
theorem rFree_raw (b:Nat) (lf:Int) (dn:Bool) (s:Sl) (cs:List CF) (m:DM) (hi:DInv m) (sf:SF cs m.fs) :
    Ct Pr F_ref12_Device_Free [.pointer (some ⟨b,0,none⟩)] .one [.int .i64] [Blk b (rc m.room lf dn s),Ar FILE s cs] emp (fun t Bs=>t.1=m.room - (usedN m.fs:Int)∧Bs=[Blk b (rc m.room lf dn s),Ar FILE s cs]):=by
  refine spec1 c_ref12_Device_Free fun B _=>?_
  unfold ref12_Device_Free
  have hu:=hi.used
  have hroom:=hi.room
  refine xdraw (xnil (xget (h:=?_)))
  refine xcl (rUsed_raw b lf dn s cs m hi sf) rdb ?_
  rintro ⟨r,_⟩ _ ⟨hr,rfl⟩
  simp only at hr
  subst hr
  refine app2 (ca1 (xchk (h:=?_)))
  rw [wrap_id _ (by omega) (by omega)]
  exact xret ⟨rfl,rfl⟩
theorem rDone_raw (b:Nat) (s:Sl) (m:DM) (hl:i64 m.left) (ha:m.armed=true→0≤m.left) :
    Ct Pr F_ref12_Device_Done [.pointer (some ⟨b,0,none⟩)] .one [.bool] [Blk b (refCells m s)] emp (fun t Bs=>t.1=(spendM m).2∧Bs=[Blk b (refCells (spendM m).1 s)]):=by
  refine spec1 c_ref12_Device_Done fun B _=>?_
  unfold ref12_Device_Done
  obtain ⟨ar,dn,lf,rm,fs⟩:=m
  cases ar with
  | false=>exact xnil (xget (h:=xiff rfl (xnil (xget (h:=xjoin (xiff rfl (xret ⟨rfl,rfl⟩)))))))
  | true=>
    have h0:=ha rfl
    simp only at h0 hl
    refine xnil (xget (h:=xif (fun h=>?_) (fun h=>?_)))
    · have e:spendM ⟨true,dn,lf,rm,fs⟩=(⟨true,true,lf,rm,fs⟩,false):=by
        have:(lf == 0)=true:=h
        simp [spendM,this]
      rw [e]
      exact xnil (xset (h:=xret ⟨rfl,rfl⟩))
    · have hne:(lf == 0)=false:=h
      have hne':¬ lf=0:=by simpa using hne
      have e:spendM ⟨true,dn,lf,rm,fs⟩=(⟨true,dn,lf - 1,rm,fs⟩,true):=by simp [spendM,hne]
      rw [e]
      refine xnil (xget (h:=xjoin (xift (decide_eq_true (show (if true=true then lf else -1)>0 by simp;omega)) (xnil (xget (h:=xnil (xset (h:=?_))))))))
      have e1:IntKind.i64.wrap (lf - 1)=lf - 1:=by unfold i64 at hl;exact wrap_id _ (by omega) (by omega)
      refine xret ⟨rfl,?_⟩
      show [Blk b [_,.int .i64 (IntKind.i64.wrap (lf - 1)),_,_]]=_
      rw [e1];rfl
def thR (m:DM) (nm:ByteArray):Int×Int:=if m.down then (0,10) else if thereL m.fs nm.toList then (findL m.fs nm.toList,0) else (0,6)
theorem rthere_raw (b:Nat) (s:Sl) (cs:List CF) (m:DM) (nm:ByteArray) (hi:DInv m) (sf:SF cs m.fs) :
    Ct Pr F_ref12_Device_there [.pointer (some ⟨b,0,none⟩),.string nm] (.tup [none,none]) [.int .i64,.int .i64] [Blk b (refCells m s),Ar FILE s cs] emp
    (fun t Bs=>t.1=(thR m nm).1∧t.2.1=(thR m nm).2∧Bs=[Blk b (refCells m s),Ar FILE s cs]):=by
  refine spec2 c_ref12_Device_there fun B _=>?_
  unfold ref12_Device_there
  have hlen:=hi.len
  refine xnil (xget (h:=xif (fun h=>?_) (fun h=>?_)))
  · have h:m.down=true:=h
    exact xret ⟨by simp [thR,h],by simp [thR,h],rfl⟩
  have h:m.down=false:=h
  refine xcl (rFind_raw b m.room (leftR m) m.down s cs m.fs nm hi.sorted sf.names (by omega)) rdb ?_
  rintro ⟨r,_⟩ _ ⟨hr,rfl⟩
  simp only at hr
  subst hr
  refine app2 (ca1 ?_)
  rw [fIdx_neg]
  refine xif (fun g=>?_) (fun g=>?_)
  · have g:thereL m.fs nm.toList=false:=by simpa using g
    exact xret ⟨by simp [thR,h,g],by simp [thR,h,g],rfl⟩
  · have g:thereL m.fs nm.toList=true:=by simpa using g
    rw [fIdx_yes g]
    exact xret ⟨by simp [thR,h,g],by simp [thR,h,g],rfl⟩
theorem erase_take {α:Type}(l:List α) (i k:Nat) (h:i<l.length):(l.take (i+1)).eraseIdx k=(l.take i).eraseIdx k++(if i=k then [] else [l[i]]):=by
  have hlt:(l.take i).length=i:=by simp;omega
  rw [List.take_add_one,List.getElem?_eq_getElem h]
  show (l.take i++[l[i]]).eraseIdx k=_
  rcases Nat.lt_or_ge k i with h1 | h1
  · rw [List.eraseIdx_append_of_lt_length (by omega),if_neg (by omega)]
  · rw [List.eraseIdx_append_of_length_le (by omega),List.eraseIdx_of_length_le (l:=l.take i) (by omega),hlt]
    by_cases e:i=k
    · subst e;simp
    · rw [if_neg e,List.eraseIdx_of_length_le (by simp;omega)]
theorem rTake_raw (b:Nat) (rm lf:Int) (dn:Bool) (s:Sl) (cs:List CF) (k:Nat) (hl:cs.length≤1000) :
    Ct Pr F_ref12_Device_Take [.pointer (some ⟨b,0,none⟩),.int .i64 (k:Int)] (.tup []) [] [Blk b (rc rm lf dn s),Ar FILE s cs] emp (fun t Bs=>∃ s',Bs=[Blk b (rc rm lf dn s'),Ar FILE s' (cs.eraseIdx k)]):=by
  refine spec0 c_ref12_Device_Take fun B _=>?_
  unfold ref12_Device_Take
  refine xlen s fun hn1 _=>xnone FILE ?_
  refine xloop2 (fun n o i As=>∃ j:Nat,i=(j:Int)∧n=cs.length - j∧j≤cs.length∧As=[Ar FILE o ((cs.take j).eraseIdx k),Blk b (rc rm lf dn s),Ar FILE s cs]) cs.length ⟨0,rfl,rfl,by omega,rfl⟩ ?_
  rintro n o _ _ K ⟨j,rfl,rfl,hj,rfl⟩ hK
  refine xnil (xget (h:=xif_dec (fun h=>?_) (fun h=>?_)))
  · have hjl:j<cs.length:=by omega
    have hc:=List.getElem?_eq_getElem hjl
    have et:=erase_take cs j k hjl
    have hll:((cs.take j).eraseIdx k).length≤1000:=by
      have:=List.length_eraseIdx_le (cs.take j) k
      rw [List.length_take] at this;omega
    generalize cs[j]=c at hc et
    refine xjoin1 (fun(o1:Sl) As'=>As'=[Ar FILE o1 ((cs.take (j+1)).eraseIdx k),Blk b (rc rm lf dn s),Ar FILE s cs]) ?_ ?_
    · intro J hJ
      refine xif (fun g=>?_) (fun g=>?_)
      · have g:¬ (j:Int)=k:=by simpa using g
        have g:¬ j=k:=by omega
        rw [if_neg g] at et
        refine xnil (xget (h:=?_))
        refine xidxn (h1:=by omega) (h:=fun _ _=>?_)
        refine xgetE hc (h:=?_)
        refine xgetEj hc (h:=?_)
        refine xgetEj hc (h:=xnew fun b1=>?_)
        refine xapp1 c (hb:=by omega) (h:=fun s'=>?_)
        exact hJ _ _ (by rw [et])
      · have g:(j:Int)=k:=by simpa using g
        have g:j=k:=by omega
        rw [if_pos g,List.append_nil] at et
        exact hJ _ _ (by rw [et])
    rintro o1 _ rfl
    rw [wrap_succ j (by omega)]
    exact hK (cs.length - (j+1)) _ _ _ (by omega) ⟨j+1,rfl,rfl,by omega,rfl⟩
  · have:j=cs.length:=by omega
    subst this
    rw [List.take_length]
    exact xnil (xset (h:=xdrop 2 (xfront 1 (xret ⟨o,rfl⟩))))
def putL {α:Type}(cs:List α) (j:Nat) (c:α) (i:Nat):List α:=if i≤j then cs.take i else cs.take j++c::(cs.take i).drop j
theorem putL_succ {α:Type}(cs:List α) (j:Nat) (c:α) (i:Nat) (h:i<cs.length):putL cs j c (i+1)=(putL cs j c i++if i=j then [c] else [])++[cs[i]]:=by
  have et:cs.take (i+1)=cs.take i++[cs[i]]:=by rw [List.take_add_one,List.getElem?_eq_getElem h];rfl
  have hlt:(cs.take i).length=i:=by simp;omega
  unfold putL
  rcases Nat.lt_trichotomy i j with h1 | h1 | h1
  · rw [if_pos (by omega),if_pos (by omega),if_neg (by omega),et];simp
  · subst h1
    rw [if_neg (by omega),if_pos (by omega),if_pos rfl,et,List.drop_left' hlt];simp
  · rw [if_neg (by omega),if_neg (by omega),if_neg (by omega),et,List.drop_append_of_le_length (by omega)];simp
theorem putL_end {α:Type}(cs:List α) (j:Nat) (c:α) (hj:j≤cs.length):(putL cs j c cs.length++if j=cs.length then [c] else [])=cs.take j++c::cs.drop j:=by
  unfold putL
  by_cases h:j=cs.length
  · subst h;simp
  · rw [if_neg (by omega),if_neg h];simp
theorem putL_len {α:Type}(cs:List α) (j:Nat) (c:α) (i:Nat) (h:i≤cs.length):(putL cs j c i).length≤cs.length+1:=by
  unfold putL
  split
  · simp;omega
  · simp;omega
theorem rPut_raw (b:Nat) (rm lf:Int) (dn:Bool) (s:Sl) (cs:List CF) (fs:List DF) (c:CF) (hs:Sorted fs) (hn:SameNames cs fs) (hl:fs.length≤1000) (hno:thereL fs c.1.toList=false) :
    Ct Pr F_ref12_Device_Put [.pointer (some ⟨b,0,none⟩),.agg #[.string c.1,c.2.1.v,.int .i64 c.2.2]] (.tup []) [] [Blk b (rc rm lf dn s),Ar FILE s cs] emp
    (fun t Bs=>∃ s',Bs=[Blk b (rc rm lf dn s'),Ar FILE s' (cs.take (findL fs c.1.toList)++c::cs.drop (findL fs c.1.toList))]):=by
  refine spec0 c_ref12_Device_Put fun B _=>?_
  unfold ref12_Device_Put
  obtain ⟨hcl,hnm⟩:=hn
  have hjl:=findL_le fs c.1.toList
  have hless:∀ (i:Nat) (f:DF),fs[i]? = some f→Op.bytesLess c.1.toList f.nm.toList=decide (findL fs c.1.toList≤i):=by
    intro i f hf
    rcases Nat.lt_or_ge i (findL fs c.1.toList) with h | h
    · have:=lt_asymm (findL_lt h hf)
      rw [show Op.bytesLess c.1.toList f.nm.toList=false from this]
      simp;omega
    · have h1:=findL_ge hs h hf
      have h2:=not_there hs hno f (List.mem_of_getElem? hf)
      have h3:lt c.1.toList f.key=true:=by
        cases h3:lt c.1.toList f.key with
        | true=>rfl
        | false=>exact absurd (lt_total h1 h3) h2
      rw [show Op.bytesLess c.1.toList f.nm.toList=true from h3]
      simp;omega
  generalize findL fs c.1.toList=j at *
  refine xlen s fun hn1 _=>xnew fun b1=>xnone FILE ?_
  refine xloop3 (fun(n:Nat) (o:Sl) (laid:Bool) (i:Int) As=>∃ t:Nat,i=(t:Int)∧n=cs.length - t∧t≤cs.length∧laid=decide (j<t)∧As=[Ar FILE o (putL cs j c t),Blk b1 [.string c.1,c.2.1.v,.int .i64 c.2.2],Blk b (rc rm lf dn s),Ar FILE s cs]) cs.length ⟨0,rfl,rfl,by omega,by simp,by simp [putL]⟩ ?_
  rintro n o _ _ _ K ⟨t,rfl,rfl,ht,rfl,rfl⟩ hK
  have hpl:=putL_len cs j c t ht
  refine xnil (xget (h:=xif_dec (fun h=>?_) (fun h=>?_)))
  · have htl:t<cs.length:=by omega
    have hc:=List.getElem?_eq_getElem htl
    have hf:=List.getElem?_eq_getElem (l:=fs) (i:=t) (by omega)
    have hnm':=hnm _ _ _ hc hf
    have hle:=hless _ _ hf
    have et:=putL_succ cs j c t htl
    generalize cs[t]=c1 at *
    rw [←hnm'] at hle
    refine xdraw ?_
    refine xjoin1 (fun(q:Bool) As'=>q=decide (t=j)∧As'=[Ar FILE o (putL cs j c t),Blk b1 [.string c.1,c.2.1.v,.int .i64 c.2.2],Blk b (rc rm lf dn s),Ar FILE s cs]) ?_ ?_
    · intro J hJ
      refine xif (fun g=>?_) (fun g=>?_)
      · have g:t≤j:=by simpa using g
        refine xget (h:=xnil (xget (h:=?_)))
        refine xidxn (h1:=by omega) (h:=fun _ _=>?_)
        refine xgetE hc (h:=?_)
        refine hJ _ _ ⟨?_,rfl⟩
        rw [hle]
        exact decide_eq_decide.2 (by omega)
      · have g:j<t:=by simpa using g
        refine hJ _ _ ⟨?_,rfl⟩
        rw [decide_eq_false (by omega)]
    rintro _ _ ⟨rfl,rfl⟩
    refine xjoin2 (fun(o1:Sl) (l1:Bool) As'=>l1=decide (j<t+1)∧As'=[Ar FILE o1 (putL cs j c t++if t=j then [c] else []),Blk b1 [.string c.1,c.2.1.v,.int .i64 c.2.2],Blk b (rc rm lf dn s),Ar FILE s cs]) ?_ ?_
    · intro J hJ
      refine xif_dec (fun g=>?_) (fun g=>?_)
      · rw [if_pos g] at hJ
        refine xget (h:=xget (h:=xget (h:=xnew fun b2=>?_)))
        refine xapp1 c (hb:=by omega) (h:=fun s'=>?_)
        exact hJ _ _ _ ⟨by simp;omega,rfl⟩
      · rw [if_neg g,List.append_nil] at hJ
        exact hJ _ _ _ ⟨decide_eq_decide.2 (by omega),rfl⟩
    rintro o1 _ _ ⟨rfl,rfl⟩
    refine xnil (xget (h:=?_))
    refine xidxn (h1:=by omega) (h:=fun _ _=>?_)
    refine xgetE hc (h:=?_)
    refine xgetEj hc (h:=?_)
    refine xgetEj hc (h:=xnew fun b2=>?_)
    refine xapp1 c1 (hb:=by rw [List.length_append];split<;>simp<;>omega) (h:=fun s'=>?_)
    rw [wrap_succ t (by omega)]
    exact hK (cs.length - (t+1)) _ _ _ _ (by omega) ⟨t+1,rfl,rfl,by omega,rfl,by rw [et]⟩
  · have:t=cs.length:=by omega
    subst this
    have ee:=putL_end cs j c (by omega)
    refine xjoin1 (fun(o1:Sl) As'=>As'=[Ar FILE o1 (cs.take j++c::cs.drop j),Blk b1 [.string c.1,c.2.1.v,.int .i64 c.2.2],Blk b (rc rm lf dn s),Ar FILE s cs]) ?_ ?_
    · intro J hJ
      refine xif (fun g=>?_) (fun g=>?_)
      · have g:j=cs.length:=by simp at g;omega
        rw [if_pos g] at ee
        refine xget (h:=xget (h:=xget (h:=xnew fun b2=>?_)))
        refine xapp1 c (hb:=by omega) (h:=fun s'=>?_)
        exact hJ _ _ (by rw [ee])
      · have g:¬ j=cs.length:=by simp at g;omega
        rw [if_neg g,List.append_nil] at ee
        exact hJ _ _ (by rw [ee])
    rintro o1 _ rfl
    exact xnil (xset (h:=xdrop 1 (xdrop 2 (xfront 1 (xret ⟨o1,rfl⟩)))))
end Go.Cx
namespace Go.Cx
open Go Go.Cf
set_option linter.unusedVariables false
variable {B:Base}{As:List HP}
theorem CopyBytes_spec (l:Sl) (xs:List UInt8) (hm:xs.length≤140737488351232) :
    Ct Pr F_kit_CopyBytes [l.v] .one [.slice] [] (RAr U8 l xs) (fun t Bs=>Bs=[Ar U8 t.1 xs]):=by
  refine spec1 c_kit_CopyBytes fun B hr=>?_
  have fa:Fro B l U8 xs:=⟨hr⟩
  have ha:=hr.1
  unfold kit_CopyBytes
  refine xnone U8 ?_
  refine xloop2 (fun n s i As=>∃ k:Nat,i=(k:Int)∧n=xs.length - k∧k≤xs.length∧As=[Ar U8 s (xs.take k)]) xs.length ⟨0,rfl,rfl,by omega,rfl⟩ ?_
  rintro n s _ _ K ⟨k,rfl,rfl,hk,rfl⟩ hK
  refine xif_dec (fun h=>?_) (fun h=>?_)
  · refine xidxn rfl (by omega) fun x hx=>xgetE hx rfl rfl (xnew fun b=>xapp1 x (hb:=by simp;omega) (h:=fun s'=>?_))
    rw [wrap_succ k (by omega)]
    refine hK (xs.length - (k+1)) _ _ _ (by omega) ⟨k+1,rfl,rfl,by omega,?_⟩
    rw [List.take_add_one,hx];rfl
  · refine xret ?_
    have:k=xs.length:=by omega
    subst this
    rw [List.take_length]
theorem rUsed_spec (p:Option Addr) (m:DM):Ct Pr F_ref12_Device_Used [.pointer p] .one [.int .i64] [RefDev p m] emp (fun t Bs=>t.1=(usedN m.fs:Int)∧Bs=[RefDev p m]):=by
  refine spec1 (φ:=XCall Pr F_ref12_Device_Used [.pointer p] .one [.int .i64]) id fun B _=>?_
  refine xrdev 0 fun hi b s cs hp sf hn=>?_
  subst hp
  refine xcl (rUsed_raw b (leftR m) m.down s cs m hi sf) rdb ?_
  rintro ⟨r,_⟩ _ ⟨hr,rfl⟩
  exact app2 (ca1 (xrdev_back b s cs hi (xret ⟨hr,rfl⟩)))
theorem rFree_spec (p:Option Addr) (m:DM):Ct Pr F_ref12_Device_Free [.pointer p] .one [.int .i64] [RefDev p m] emp (fun t Bs=>t.1=m.room - (usedN m.fs:Int)∧Bs=[RefDev p m]):=by
  refine spec1 (φ:=XCall Pr F_ref12_Device_Free [.pointer p] .one [.int .i64]) id fun B _=>?_
  refine xrdev 0 fun hi b s cs hp sf hn=>?_
  subst hp
  refine xcl (rFree_raw b (leftR m) m.down s cs m hi sf) rdb ?_
  rintro ⟨r,_⟩ _ ⟨hr,rfl⟩
  exact app2 (ca1 (xrdev_back b s cs hi (xret ⟨hr,rfl⟩)))
theorem rNames_spec (p:Option Addr) (m:DM):Ct Pr F_ref12_Device_Names [.pointer p] .one [.slice] [RefDev p m] emp (fun t Bs=>Bs=[RefDev p m,Ar ST t.1 (m.fs.map (·.nm))]):=by
  refine spec1 c_ref12_Device_Names fun B _=>?_
  unfold ref12_Device_Names
  refine xrdev 0 fun hi b s cs hp sf hsn=>?_
  subst hp
  have hlen:=hi.len
  have hcl:=sf.len
  refine xnone ST ?_
  refine xloop2 (fun n o i As=>∃ k:Nat,i=(k:Int)∧n=m.fs.length - k∧k≤m.fs.length∧As=[Ar ST o ((m.fs.map fun f:DF=>f.nm).take k),Blk b (refCells m s),Ar FILE s cs,Each FileR cs m.fs]) m.fs.length ⟨0,rfl,rfl,by omega,rfl⟩ ?_
  rintro n o _ _ K ⟨k,rfl,rfl,hk,rfl⟩ hK
  refine xnil (xget (h:=xif_dec (fun h=>?_) (fun h=>?_)))
  · have hf:=List.getElem?_eq_getElem (l:=m.fs) (i:=k) (by omega)
    have hc:=List.getElem?_eq_getElem (l:=cs) (i:=k) (by omega)
    obtain ⟨h1,_⟩:=sf.each _ _ _ hc hf
    refine xnil (xget (h:=?_))
    refine xidxn (h1:=by omega) (h:=fun _ _=>?_)
    refine xgetE hc (h:=xnew fun b2=>?_)
    refine xapp1 cs[k].1 (hb:=by simp;omega) (h:=fun s'=>?_)
    rw [wrap_succ k (by omega)]
    refine hK (m.fs.length - (k+1)) _ _ _ (by omega) ⟨k+1,rfl,rfl,by omega,?_⟩
    rw [List.take_add_one,List.getElem?_map,hf,h1];rfl
  · have:k=m.fs.length:=by omega
    subst this
    rw [List.take_of_length_le (by simp)]
    exact xrdev_back b s cs hi (xret rfl)
theorem rRead_spec (p:Option Addr) (m:DM) (nm:ByteArray):Ct Pr F_ref12_Device_Read [.pointer p,.string nm] (.tup [none,none]) [.slice,.int .i64] [RefDev p m] emp
    (fun t Bs=>t.2.1=(readM m nm).2∧Bs=[RefDev p m,Ar U8 t.1 (readM m nm).1]):=by
  refine spec2 c_ref12_Device_Read fun B _=>?_
  unfold ref12_Device_Read
  refine xrdev 0 fun hi b s cs hp sf hsn=>?_
  subst hp
  have hlen:=hi.len
  refine xcl (rFind_raw b m.room (leftR m) m.down s cs m.fs nm hi.sorted sf.names (by omega)) rdb ?_
  rintro ⟨r,_⟩ _ ⟨h1,rfl⟩
  simp only at h1
  subst h1
  refine app2 (ca1 ?_)
  rw [fIdx_neg]
  refine xif (fun h=>?_) (fun h=>?_)
  · have h':thereL m.fs nm.toList=false:=by simpa using h
    refine xnone U8 (xrdev_back b s cs hi (xret ?_))
    simp [readM,h']
  · have h':thereL m.fs nm.toList=true:=by simpa using h
    rw [fIdx_yes h']
    obtain ⟨c,f,hc,hf,hgd,e1,e2,e3,e4,hfb,_⟩:=on_file (p:=none) hi sf h'
    have hlt:=(List.getElem?_eq_some_iff.1 hc).1
    refine xnil (xget (h:=?_))
    refine xidxn (h1:=hlt) (h:=fun _ _=>?_)
    refine xgetEj hc (h:=?_)
    refine xcl (CopyBytes_spec c.2.1 f.b (by omega)) (rds_pick 2 (fun g hg=>each_read (R:=FileR) (S:=fun c f=>RAr U8 c.2.1 f.b) (fun _ _ _ _ h s=>h.mono s) (fun _ _ _ h=>h.2.2.read) hg hc hf) (fun _ _ h s=>h.mono s)) ?_
    rintro ⟨r,_⟩ _ rfl
    refine app1 (ca1 (xrdev_back b s cs hi (xret ?_)))
    unfold readM
    rw [h',hgd]
    exact ⟨rfl,rfl⟩
theorem th_down {m:DM}{nm:ByteArray}(h:m.down=true):thR m nm=(0,10):=by simp [thR,h]
theorem th_none {m:DM}{nm:ByteArray}(h:m.down=false) (ht:thereL m.fs nm.toList=false):thR m nm=(0,6):=by simp [thR,h,ht]
theorem th_ok {m:DM}{nm:ByteArray}(h:m.down=false) (ht:thereL m.fs nm.toList=true):thR m nm=((findL m.fs nm.toList:Int),0):=by simp [thR,h,ht]
theorem rSync_spec (p:Option Addr) (m:DM) (nm:ByteArray):Ct Pr F_ref12_Device_Sync [.pointer p,.string nm] .one [.int .i64] [RefDev p m] emp
    (fun t Bs=>t.1=(syncM m nm).2∧Bs=[RefDev p (syncM m nm).1]):=by
  refine spec1 c_ref12_Device_Sync fun B _=>?_
  unfold ref12_Device_Sync
  refine xrdev 0 fun hi b s cs hp sf hsn=>?_
  subst hp
  have hinv:=sync_inv hi nm
  unfold syncM at hinv ⊢
  refine xcl (rthere_raw b s cs m nm hi sf) rdb ?_
  rintro ⟨r,c,_⟩ _ ⟨h1,h2,rfl⟩
  simp only at h1 h2
  refine app2 (ca2 ?_)
  cases hd:m.down with
  | true=>
    rw [th_down hd] at h1 h2
    subst h1 h2
    rw [onFile_down hd]
    exact xift rfl (xrdev_back b s cs hi (xret ⟨rfl,rfl⟩))
  | false=>
  cases ht:thereL m.fs nm.toList with
  | false=>
    rw [th_none hd ht] at h1 h2
    subst h1 h2
    rw [onFile_none hd ht]
    exact xift rfl (xrdev_back b s cs hi (xret ⟨rfl,rfl⟩))
  | true=>
  rw [th_ok hd ht] at h1 h2
  simp only at h1 h2
  subst h1 h2
  rw [onFile_ok hd ht] at hinv ⊢
  obtain ⟨c,f,hc,hf,hgd,e1,e2,e3,_,hfb,_⟩:=on_file (p:=none) hi sf ht
  rw [hgd] at hinv ⊢
  obtain ⟨q1,q2⟩:=spendM_fs m
  refine xiff rfl ?_
  refine xcl (rDone_raw b s m hi.left.1 hi.left.2) rdb ?_
  rintro ⟨r,_⟩ _ ⟨hr,rfl⟩
  simp only at hr
  subst hr
  refine app1 (ca1 (xif (fun hsp=>?_) (fun hsp=>?_)))
  · rw [spent_no (by simpa using hsp)] at hinv ⊢
    exact xrdev_put 0 0 0 b s cs (spendM m).1 hinv (fun _ h=>by rw [q1];exact h) (xret ⟨rfl,rfl⟩)
  rw [spent_ok (by simpa using hsp)] at hinv ⊢
  have hlt:=(List.getElem?_eq_some_iff.1 hc).1
  refine xdraw (xnil (xget (h:=xnil (xget (h:=?_)))))
  refine xidxn (h1:=hlt) (h:=fun _ _=>?_)
  refine xgetEj hc (h:=?_)
  refine xidxn (h1:=hlt) (h:=fun _ _=>?_)
  refine xsetEj (c.1,c.2.1,(f.b.length:Int)) hc (hj:=by decide) (hv:=by simp [FILE,e3]) (h:=?_)
  refine xfold1 2 (file_set (c':=(c.1,c.2.1,(f.b.length:Int))) (f':={ f with sy:=f.b.length }) hc hf (fun g h=>⟨h.1,rfl,h.2.2⟩)) ?_
  exact xrdev_put 1 1 0 b s (cs.set (findL m.fs nm.toList) (c.1,c.2.1,(f.b.length:Int))) _ hinv (fun _ h=>by simp only [q1];exact h) (xret ⟨rfl,rfl⟩)
theorem file_new {cs:List CF}{fs:List DF}{k:Nat}{c c':CF}{f f':DF}(hc:cs[k]? = some c) (hf:fs[k]? = some f) (h1:c'.1=f'.nm) (h2:c'.2.2=f'.sy) (g:Frag) (hg:star [Ar U8 c'.2.1 f'.b,Each FileR cs fs] g):Each FileR (cs.set k c') (fs.set k f') g:=by
  refine each_put (List.getElem?_eq_some_iff.1 hc).1 (List.getElem?_eq_some_iff.1 hf).1 ?_
  refine star_imp (P:=Ar U8 c'.2.1 f'.b) (fun q hq=>⟨h1,h2,hq⟩) ?_
  refine star_cons (l:=[Each FileR cs fs]) (fun q hq=>?_) hg
  obtain ⟨a,_,pa,_,_,sa,_⟩:=hq
  obtain ⟨a1,b1,_,pb1,_,_,sb1⟩:=each_pick pa hc hf
  exact star_mono _ pb1 (sb1.trans sa)
theorem rTruncate_spec (p:Option Addr) (m:DM) (nm:ByteArray) (n:Int):Ct Pr F_ref12_Device_Truncate [.pointer p,.string nm,.int .i64 n] .one [.int .i64] [RefDev p m] emp
    (fun t Bs=>t.1=(truncM m nm n).2∧Bs=[RefDev p (truncM m nm n).1]):=by
  refine spec1 c_ref12_Device_Truncate fun B _=>?_
  unfold ref12_Device_Truncate
  refine xrdev 0 fun hi b s cs hp sf hsn=>?_
  subst hp
  have hinv:=trunc_inv hi nm n
  unfold truncM at hinv ⊢
  refine xcl (rthere_raw b s cs m nm hi sf) rdb ?_
  rintro ⟨r,c,_⟩ _ ⟨h1,h2,rfl⟩
  simp only at h1 h2
  refine app2 (ca2 ?_)
  cases hd:m.down with
  | true=>
    rw [th_down hd] at h1 h2
    subst h1 h2
    rw [onFile_down hd]
    exact xift rfl (xrdev_back b s cs hi (xret ⟨rfl,rfl⟩))
  | false=>
  cases ht:thereL m.fs nm.toList with
  | false=>
    rw [th_none hd ht] at h1 h2
    subst h1 h2
    rw [onFile_none hd ht]
    exact xift rfl (xrdev_back b s cs hi (xret ⟨rfl,rfl⟩))
  | true=>
  rw [th_ok hd ht] at h1 h2
  simp only at h1 h2
  subst h1 h2
  rw [onFile_ok hd ht] at hinv ⊢
  obtain ⟨c,f,hc,hf,hgd,e1,e2,e3,e4,hfb,_,_⟩:=on_file (p:=none) hi sf ht
  rw [hgd] at hinv ⊢
  have hlt:=(List.getElem?_eq_some_iff.1 hc).1
  obtain ⟨q1,q2⟩:=spendM_fs m
  refine xiff rfl ?_
  refine xjoin1 (fun x As'=>x=decide (n<0∨n>f.b.length)∧As'=[Blk b (refCells m s),Ar FILE s cs,Each FileR cs m.fs]) ?_ ?_
  · intro J hJ
    refine xif_dec (fun h=>hJ _ _ ⟨by simp [h],rfl⟩) (fun h=>?_)
    refine xnil (xget (h:=?_))
    refine xidxn (h1:=hlt) (h:=fun _ _=>?_)
    refine xgetEj hc (h:=hJ _ _ ⟨?_,rfl⟩)
    rw [e3];simp [h]
  rintro _ _ ⟨rfl,rfl⟩
  refine xif_dec (fun h=>?_) (fun h=>?_)
  · rw [if_pos h]
    exact xrdev_back b s cs hi (xret ⟨rfl,rfl⟩)
  rw [if_neg h] at hinv ⊢
  refine xcl (rDone_raw b s m hi.left.1 hi.left.2) rdb ?_
  rintro ⟨r,_⟩ _ ⟨hr,rfl⟩
  simp only at hr
  subst hr
  refine app1 (ca1 (xif (fun hsp=>?_) (fun hsp=>?_)))
  · rw [spent_no (by simpa using hsp)] at hinv ⊢
    exact xrdev_put 0 0 0 b s cs (spendM m).1 hinv (fun _ h=>by rw [q1];exact h) (xret ⟨rfl,rfl⟩)
  rw [spent_ok (by simpa using hsp)] at hinv ⊢
  simp only [q1] at hinv ⊢
  generalize findL m.fs nm.toList=i at *
  refine xdraw (xnil (xget (h:=xnil (xget (h:=?_)))))
  refine xidxn (h1:=hlt) (h:=fun _ _=>?_)
  refine xgetEj hc (h:=?_)
  refine xslc0 rfl (by omega) (by omega) ?_
  refine xcl (CopyBytes_spec ⟨c.2.1.p,n.toNat,c.2.1.c⟩ (f.b.take n.toNat) (by rw [List.length_take];omega)) (rds_pick 2 (fun g hg=>each_read (R:=FileR) (S:=fun c f g=>n.toNat≤f.b.length→RAr U8 ⟨c.2.1.p,n.toNat,c.2.1.c⟩ (f.b.take n.toNat) g) (fun _ _ _ _ h s l=>(h l).mono s) (fun c' f' g h l=>(ar_cut l h.2.2).read) hg hc hf (by omega)) (fun _ _ h s=>h.mono s)) ?_
  rintro ⟨s6,_⟩ _ rfl
  refine app1 (ca1 (xchk (h:=?_)))
  refine xidxn (h1:=hlt) (h:=fun _ _=>?_)
  refine xsetEj (c.1,s6,c.2.2) hc (hj:=by decide) (hv:=rfl) (h:=xnil (xget (h:=?_)))
  have hc2:(cs.set i (c.1,s6,c.2.2))[i]? = some (c.1,s6,c.2.2):=List.getElem?_set_self hlt
  refine xidxn (h1:=by simp;omega) (h:=fun _ _=>?_)
  refine xgetEj hc2 (h:=?_)
  refine xjoin0 (fun As'=>As'=[Blk b (refCells (spendM m).1 s),Ar FILE s (cs.set i (c.1,s6,if n<f.sy then n else f.sy)),Each FileR cs m.fs,Ar U8 s6 (f.b.take n.toNat)]) ?_ ?_
  · intro J hJ
    refine xif_dec (fun h=>?_) (fun h=>?_)
    · have h:n<f.sy:=by simp only [e2] at h;omega
      rw [if_pos h] at hJ
      refine xnil (xget (h:=?_))
      refine xidxn (h1:=by simp;omega) (h:=fun _ _=>?_)
      refine xsetEj (c.1,s6,n) hc2 (hj:=by decide) (hv:=rfl) (h:=?_)
      rw [List.set_set]
      exact xuse [Blk b (refCells (spendM m).1 s),Ar FILE s (cs.set i (c.1,s6,n)),Each FileR cs m.fs,Ar U8 s6 (f.b.take n.toNat)] (hJ _ rfl)
    · have h:¬ n<f.sy:=by simp only [e2] at h;omega
      rw [if_neg h,←e2] at hJ
      exact xuse [Blk b (refCells (spendM m).1 s),Ar FILE s (cs.set i (c.1,s6,c.2.2)),Each FileR cs m.fs,Ar U8 s6 (f.b.take n.toNat)] (hJ _ rfl)
  rintro _ rfl
  refine xfold2 3 2 (Q:=Each FileR (cs.set i (c.1,s6,if n<f.sy then n else f.sy)) (m.fs.set i { f with b:=f.b.take n.toNat,sy:=if n<f.sy then n else f.sy })) (fun g hg=>file_new (c':=(c.1,s6,if n<f.sy then n else f.sy)) (f':={ f with b:=f.b.take n.toNat,sy:=if n<f.sy then n else f.sy }) hc hf e1 rfl g hg) ?_
  exact xrdev_put 1 1 0 b s (cs.set i (c.1,s6,if n<f.sy then n else f.sy)) _ hinv (fun _ h=>h) (xret ⟨rfl,rfl⟩)
theorem rRemove_spec (p:Option Addr) (m:DM) (nm:ByteArray):Ct Pr F_ref12_Device_Remove [.pointer p,.string nm] .one [.int .i64] [RefDev p m] emp
    (fun t Bs=>t.1=(removeM m nm).2∧Bs=[RefDev p (removeM m nm).1]):=by
  refine spec1 c_ref12_Device_Remove fun B _=>?_
  unfold ref12_Device_Remove
  refine xrdev 0 fun hi b s cs hp sf hsn=>?_
  subst hp
  have hinv:=remove_inv hi nm
  unfold removeM at hinv ⊢
  refine xcl (rthere_raw b s cs m nm hi sf) rdb ?_
  rintro ⟨r,c,_⟩ _ ⟨h1,h2,rfl⟩
  simp only at h1 h2
  refine app2 (ca2 ?_)
  cases hd:m.down with
  | true=>
    rw [th_down hd] at h1 h2
    subst h1 h2
    rw [onFile_down hd]
    exact xift rfl (xrdev_back b s cs hi (xret ⟨rfl,rfl⟩))
  | false=>
  cases ht:thereL m.fs nm.toList with
  | false=>
    rw [th_none hd ht] at h1 h2
    subst h1 h2
    rw [onFile_none hd ht]
    exact xift rfl (xrdev_back b s cs hi (xret ⟨rfl,rfl⟩))
  | true=>
  rw [th_ok hd ht] at h1 h2
  simp only at h1 h2
  subst h1 h2
  rw [onFile_ok hd ht] at hinv ⊢
  obtain ⟨c,f,hc,hf,hgd,e1,e2,e3,e4,hfb,_,_⟩:=on_file (p:=none) hi sf ht
  have hlen:=hi.len
  have hcl:=sf.len
  obtain ⟨q1,q2⟩:=spendM_fs m
  refine xiff rfl ?_
  refine xcl (rDone_raw b s m hi.left.1 hi.left.2) rdb ?_
  rintro ⟨r,_⟩ _ ⟨hr,rfl⟩
  simp only at hr
  subst hr
  refine app1 (ca1 (xif (fun hsp=>?_) (fun hsp=>?_)))
  · rw [spent_no (by simpa using hsp)] at hinv ⊢
    exact xrdev_put 0 0 0 b s cs (spendM m).1 hinv (fun _ h=>by rw [q1];exact h) (xret ⟨rfl,rfl⟩)
  rw [spent_ok (by simpa using hsp)] at hinv ⊢
  simp only [q1] at hinv ⊢
  refine xcl (rTake_raw b (spendM m).1.room (leftR (spendM m).1) (spendM m).1.down s cs (findL m.fs nm.toList) (by omega)) rdb ?_
  rintro _ _ ⟨s',rfl⟩
  refine app2 (ca0 ?_)
  refine xunf 2 [FileR c f,Each FileR (cs.eraseIdx (findL m.fs nm.toList)) (m.fs.eraseIdx (findL m.fs nm.toList))] (fun g hg=>each_pick hg hc hf) (app2 (xdrop 0 ?_))
  exact xrdev_put 1 1 0 b s' (cs.eraseIdx (findL m.fs nm.toList)) _ hinv (fun _ h=>h) (xret ⟨rfl,rfl⟩)
end Go.Cx
namespace Go.Cx
open Go Go.Cf
set_option linter.unusedVariables false
variable {B:Base}{As:List HP}
theorem find_erase {fs:List DF}(hs:Sorted fs) {k:Key}(ht:thereL fs k=true):thereL (fs.eraseIdx (findL fs k)) k=false∧findL (fs.eraseIdx (findL fs k)) k=findL fs k:=by
  obtain ⟨f,hf,hk⟩:=there_get ht
  have hlt:=(List.getElem?_eq_some_iff.1 hf).1
  have hle:=List.length_eraseIdx_of_lt hlt
  have he:findL (fs.eraseIdx (findL fs k)) k=findL fs k:=by
    refine findL_eq (by omega) (fun t g h hg=>?_) (fun g hg=>?_)
    · rw [List.getElem?_eraseIdx,if_pos h] at hg
      exact findL_lt h hg
    · rw [List.getElem?_eraseIdx,if_neg (by omega)] at hg
      exact findL_ge hs (by omega) hg
  refine ⟨?_,he⟩
  unfold thereL
  rw [he,List.getElem?_eraseIdx,if_neg (by omega)]
  cases hg:fs[findL fs k+1]? with
  | none=>rfl
  | some g=>
    have h1:=hs.get (Nat.lt_succ_self _) hf hg
    simp only [beq_eq_false_iff_ne]
    intro e
    rw [hk,e,lt_irrefl] at h1
    cases h1
theorem set_ins {fs:List DF}{i:Nat}{g:DF}(h:i<fs.length):insL (fs.eraseIdx i) i g=fs.set i g:=by
  unfold insL
  rw [List.eraseIdx_eq_take_drop_succ,List.set_eq_take_append_cons_drop,if_pos h]
  have hl:(fs.take i).length=i:=by simp;omega
  rw [List.take_append_of_le_length (by omega),List.drop_append_of_le_length (by omega),List.take_of_length_le (by omega),List.drop_of_length_le (by omega)]
  rfl
theorem rRename_spec (p:Option Addr) (m:DM) (nm to:ByteArray):Ct Pr F_ref12_Device_Rename [.pointer p,.string nm,.string to] .one [.int .i64] [RefDev p m] emp
    (fun t Bs=>t.1=(renameM m nm to).2∧Bs=[RefDev p (renameM m nm to).1]):=by
  refine spec1 c_ref12_Device_Rename fun B _=>?_
  unfold ref12_Device_Rename
  refine xrdev 0 fun hi b s cs hp sf hsn=>?_
  subst hp
  have hinv:=rename_inv hi nm to
  unfold renameM at hinv ⊢
  refine xcl (rNamed_spec to) rdb ?_
  rintro ⟨c,_⟩ _ ⟨h1,rfl⟩
  simp only at h1
  subst h1
  refine app0 (ca1 (xif (fun hn=>?_) (fun hn=>?_)))
  · rw [if_pos hn]
    exact xrdev_back b s cs hi (xret ⟨rfl,rfl⟩)
  rw [if_neg (by simpa using hn)] at hinv ⊢
  refine xcl (rthere_raw b s cs m nm hi sf) rdb ?_
  rintro ⟨r,c,_⟩ _ ⟨h1,h2,rfl⟩
  simp only at h1 h2
  refine app2 (ca2 ?_)
  cases hd:m.down with
  | true=>
    rw [th_down hd] at h1 h2
    subst h1 h2
    rw [onFile_down hd]
    exact xift rfl (xrdev_back b s cs hi (xret ⟨rfl,rfl⟩))
  | false=>
  cases ht:thereL m.fs nm.toList with
  | false=>
    rw [th_none hd ht] at h1 h2
    subst h1 h2
    rw [onFile_none hd ht]
    exact xift rfl (xrdev_back b s cs hi (xret ⟨rfl,rfl⟩))
  | true=>
  rw [th_ok hd ht] at h1 h2
  simp only at h1 h2
  subst h1 h2
  rw [onFile_ok hd ht] at hinv ⊢
  obtain ⟨c,f,hc,hf,hgd,e1,e2,e3,e4,hfb,_,_⟩:=on_file (p:=none) hi sf ht
  rw [hgd] at hinv ⊢
  have hlt:=(List.getElem?_eq_some_iff.1 hc).1
  have hltf:=(List.getElem?_eq_some_iff.1 hf).1
  have hlen:=hi.len
  have hcl:=sf.len
  obtain ⟨q1,q2⟩:=spendM_fs m
  refine xiff rfl ?_
  refine xcl (rDone_raw b s m hi.left.1 hi.left.2) rdb ?_
  rintro ⟨r,_⟩ _ ⟨hr,rfl⟩
  simp only at hr
  subst hr
  refine app1 (ca1 (xif (fun hsp=>?_) (fun hsp=>?_)))
  · rw [spent_no (by simpa using hsp)] at hinv ⊢
    exact xrdev_put 0 0 0 b s cs (spendM m).1 hinv (fun _ h=>by rw [q1];exact h) (xret ⟨rfl,rfl⟩)
  rw [spent_ok (by simpa using hsp)] at hinv ⊢
  simp only [q1] at hinv ⊢
  have hse:=sorted_erase (i:=findL m.fs nm.toList) hi.sorted
  generalize findL m.fs nm.toList=i at *
  refine xnil (xget (h:=?_))
  refine xidxn (h1:=hlt) (h:=fun _ _=>?_)
  refine xgetE hc (h:=?_)
  refine xgetEj hc (h:=?_)
  refine xgetEj hc (h:=xnew fun b1=>xset (h:=xset (h:=xset (h:=?_))))
  refine xcl (rTake_raw b (spendM m).1.room (leftR (spendM m).1) (spendM m).1.down s cs i (by omega)) rdb ?_
  rintro _ _ ⟨s',rfl⟩
  refine app2 (ca0 ?_)
  refine xunf 3 [FileR c f,Each FileR (cs.eraseIdx i) (m.fs.eraseIdx i)] (fun g hg=>each_pick hg hc hf) (app2 ?_)
  refine xfact 1 (fun g hg=>sf_of hg) fun sf'=>?_
  have hlen':(m.fs.eraseIdx i).length≤64:=by rw [List.length_eraseIdx,if_pos hltf];omega
  have hcl':=sf'.len
  refine xcl (rFind_raw b (spendM m).1.room (leftR (spendM m).1) (spendM m).1.down s' (cs.eraseIdx i) (m.fs.eraseIdx i) to hse sf'.names (by omega)) rdb ?_
  rintro ⟨r,_⟩ _ ⟨h1,rfl⟩
  simp only at h1
  subst h1
  refine app2 (ca1 ?_)
  unfold moveL at hinv ⊢
  simp only at hinv ⊢
  rcases Bool.eq_false_or_eq_true (thereL (m.fs.eraseIdx i) to.toList) with hw | hw
  · rw [if_pos hw] at hinv ⊢
    obtain ⟨hg,_⟩:=getD_there (d:=⟨to,[],0⟩) hw
    obtain ⟨hw0,hw1⟩:=find_erase hse hw
    have hse':=sorted_erase (i:=findL (m.fs.eraseIdx i) to.toList) hse
    have hltg:=(List.getElem?_eq_some_iff.1 hg).1
    have hsi:=set_ins (g:={ f with nm:=to }) hltg
    generalize (m.fs.eraseIdx i).getD (findL (m.fs.eraseIdx i) to.toList) ⟨to,[],0⟩=f1 at hg
    have hlt1:findL (m.fs.eraseIdx i) to.toList<(cs.eraseIdx i).length:=by omega
    have hg1:=List.getElem?_eq_getElem hlt1
    generalize (cs.eraseIdx i)[findL (m.fs.eraseIdx i) to.toList]=c1 at hg1
    rw [fIdx_yes hw]
    generalize findL (m.fs.eraseIdx i) to.toList=j at *
    generalize m.fs.eraseIdx i=es at *
    generalize cs.eraseIdx i=ds at *
    refine xjoin (xift (decide_eq_true (by omega)) ?_)
    refine xcl (rTake_raw b (spendM m).1.room (leftR (spendM m).1) (spendM m).1.down s' ds j (by omega)) rdb ?_
    rintro _ _ ⟨s2,rfl⟩
    refine app2 (ca0 ?_)
    -- Blk b, Ar FILE, FileR, Each, Blk b1
    refine xunf 3 [FileR c1 f1,Each FileR (ds.eraseIdx j) (es.eraseIdx j)] (fun g hgg=>each_pick hgg hg1 hg) (app2 (xdrop 0 ?_))
    refine xfact 0 (fun g hg=>sf_of hg) fun sf2=>?_
    have hlen2:(es.eraseIdx j).length≤64:=by rw [List.length_eraseIdx,if_pos hltg];omega
    refine xset (h:=xget (h:=xget (h:=xget (h:=?_))))
    refine xcl (rPut_raw b (spendM m).1.room (leftR (spendM m).1) (spendM m).1.down s2 (ds.eraseIdx j) (es.eraseIdx j) (to,c.2.1,c.2.2) hse' sf2.names (by omega) hw0) rdb ?_
    rintro _ _ ⟨s3,rfl⟩
    refine app2 (ca0 ?_)
    rw [hw1]
    -- Blk b, Ar FILE, Each, FileR, Blk b1
    refine xfold2 3 2 (Q:=Each FileR ((ds.eraseIdx j).take j++(to,c.2.1,c.2.2)::(ds.eraseIdx j).drop j) (es.set j { f with nm:=to })) (fun g hgg=>?_) ?_
    · rw [←hsi]
      exact each_ins j (star_imp (P:=FileR c f) (fun q hq=>(⟨rfl,hq.2.1,hq.2.2⟩:FileR (to,c.2.1,c.2.2) { f with nm:=to } q)) hgg)
    exact xrdev_put 1 1 0 b s3 ((ds.eraseIdx j).take j++(to,c.2.1,c.2.2)::(ds.eraseIdx j).drop j) _ hinv (fun _ h=>h) (xdrop 1 (xret ⟨rfl,rfl⟩))
  · rw [if_neg (by rw [hw];simp)] at hinv ⊢
    rw [fIdx_no hw]
    refine xjoin (xiff rfl ?_)
    refine xset (h:=xget (h:=xget (h:=xget (h:=?_))))
    refine xcl (rPut_raw b (spendM m).1.room (leftR (spendM m).1) (spendM m).1.down s' (cs.eraseIdx i) (m.fs.eraseIdx i) (to,c.2.1,c.2.2) hse sf'.names (by omega) hw) rdb ?_
    rintro _ _ ⟨s3,rfl⟩
    refine app2 (ca0 ?_)
    dsimp only
    generalize findL (m.fs.eraseIdx i) to.toList=j at *
    refine xfold2 2 2 (Q:=Each FileR ((cs.eraseIdx i).take j++(to,c.2.1,c.2.2)::(cs.eraseIdx i).drop j) (insL (m.fs.eraseIdx i) j { f with nm:=to })) (fun g hgg=>?_) ?_
    · exact each_ins j (star_imp (P:=FileR c f) (fun q hq=>(⟨rfl,hq.2.1,hq.2.2⟩:FileR (to,c.2.1,c.2.2) { f with nm:=to } q)) hgg)
    exact xrdev_put 1 1 0 b s3 ((cs.eraseIdx i).take j++(to,c.2.1,c.2.2)::(cs.eraseIdx i).drop j) _ hinv (fun _ h=>h) (xdrop 1 (xret ⟨rfl,rfl⟩))
theorem withF_find (m:DM) (nm:ByteArray) (hs:Sorted m.fs):Sorted (withF m nm)∧fIdx (withF m nm) nm=(findL m.fs nm.toList:Int):=by
  unfold withF
  cases ht:thereL m.fs nm.toList with
  | true=>exact ⟨hs,fIdx_yes ht⟩
  | false=>
    have h:=insL_get m.fs (findL m.fs nm.toList) ⟨nm,[],0⟩ (findL_le _ _)
    have h2:=sorted_ins (g:=⟨nm,[],0⟩) hs ht
    refine ⟨h2,?_⟩
    obtain ⟨h3,h4⟩:=find_unique h2 h (k:=nm.toList) rfl
    show fIdx (insL m.fs (findL m.fs nm.toList) ⟨nm,[],0⟩) nm=_
    rw [fIdx_yes h4]
    exact congrArg _ h3
theorem rAppend_spec (p:Option Addr) (m:DM) (nm:ByteArray) (d:Sl) (bs:List UInt8):Ct Pr F_ref12_Device_Append [.pointer p,.string nm,d.v] .one [.int .i64] [RefDev p m] (RAr U8 d bs)
    (fun t Bs=>t.1=(appendM m nm bs).2∧Bs=[RefDev p (appendM m nm bs).1]):=by
  refine spec1 c_ref12_Device_Append fun B hr=>?_
  have fd:Fro B d U8 bs:=⟨hr⟩
  have hdn:=hr.1
  unfold ref12_Device_Append
  refine xrdev 0 fun hi b s cs hp sf hsn=>?_
  subst hp
  have hinv:=append_inv hi nm bs
  have hlen:=hi.len
  have hcl:=sf.len
  have hu:=hi.used
  have hroom:=hi.room
  refine xcl (rNamed_spec nm) rdb ?_
  rintro ⟨c,_⟩ _ ⟨h1,rfl⟩
  simp only at h1
  subst h1
  refine app0 (ca1 (xif (fun hn=>?_) (fun hn=>?_)))
  · have e:appendM m nm bs=(m,8):=by unfold appendM;rw [if_pos hn]
    rw [e]
    exact xrdev_back b s cs hi (xret ⟨rfl,rfl⟩)
  have hn:namedB nm=true:=by simpa using hn
  refine xnil (xget (h:=xif (fun hd=>?_) (fun hd=>?_)))
  · have hd:m.down=true:=hd
    have e:appendM m nm bs=(m,10):=by unfold appendM;rw [hn,hd];rfl
    rw [e]
    exact xrdev_back b s cs hi (xret ⟨rfl,rfl⟩)
  have hd:m.down=false:=hd
  refine xcl (rFind_raw b m.room (leftR m) m.down s cs m.fs nm hi.sorted sf.names (by omega)) rdb ?_
  rintro ⟨r,_⟩ _ ⟨h1,rfl⟩
  simp only at h1
  subst h1
  refine app2 (ca1 ?_)
  rw [fIdx_neg]
  refine xjoin1 (fun x As'=>x=(!(thereL m.fs nm.toList)&&decide ((m.fs.length:Int)≥64))∧As'=[Blk b (refCells m s),Ar FILE s cs,Each FileR cs m.fs]) ?_ ?_
  · intro J hJ
    refine xif (fun h=>xnil (xget (h:=hJ _ _ ⟨?_,rfl⟩))) (fun h=>hJ _ _ ⟨by rw [h];rfl,rfl⟩)
    rw [h,hsn,hcl]
    show ((m.fs.length:Int) == 64)=(true&&_)
    rw [Bool.true_and,Bool.eq_iff_iff,beq_iff_eq,decide_eq_true_iff]
    omega
  rintro _ _ ⟨rfl,rfl⟩
  refine xjoin1 (fun x As'=>x=((!(thereL m.fs nm.toList)&&decide ((m.fs.length:Int)≥64))||decide ((bs.length:Int)>m.room - usedN m.fs))∧As'=[Blk b (refCells m s),Ar FILE s cs,Each FileR cs m.fs]) ?_ ?_
  · intro J hJ
    refine xif (fun h=>hJ _ _ ⟨by rw [h];rfl,rfl⟩) (fun h=>?_)
    refine xcl (rFree_raw b (leftR m) m.down s cs m hi sf) rdb ?_
    rintro ⟨r,_⟩ _ ⟨hr,rfl⟩
    simp only at hr
    subst hr
    refine app2 (ca1 (hJ _ _ ⟨?_,rfl⟩))
    rw [h,←hdn];rfl
  rintro _ _ ⟨rfl,rfl⟩
  refine xif (fun hfull=>?_) (fun hfull=>?_)
  · have e:appendM m nm bs=(m,9):=by unfold appendM;rw [hn,hd,hfull];rfl
    rw [e]
    exact xrdev_back b s cs hi (xret ⟨rfl,rfl⟩)
  obtain ⟨q1,q2⟩:=spendM_fs m
  refine xcl (rDone_raw b s m hi.left.1 hi.left.2) rdb ?_
  rintro ⟨r,_⟩ _ ⟨hr,rfl⟩
  simp only at hr
  subst hr
  refine app1 (ca1 (xif (fun hsp=>?_) (fun hsp=>?_)))
  · have hsp:(spendM m).2=false:=by simpa using hsp
    have e:appendM m nm bs=((spendM m).1,10):=by unfold appendM;rw [hn,hd,hfull,hsp];rfl
    rw [e] at hinv ⊢
    exact xrdev_put 0 0 0 b s cs (spendM m).1 hinv (fun _ h=>by rw [q1];exact h) (xret ⟨rfl,rfl⟩)
  have hsp:(spendM m).2=true:=by simpa using hsp
  rw [appendM_ok hn hd hfull hsp] at hinv ⊢
  have hbs:(bs.length:Int)≤m.room - usedN m.fs:=by
    have:=(Bool.or_eq_false_iff.1 hfull).2
    simpa using this
  obtain ⟨hws,hwf⟩:=withF_find m nm hi.sorted
  refine xjoin1 (fun(k:Int) As'=>k=(findL m.fs nm.toList:Int)∧∃ s' cs',As'=[Blk b (refCells (spendM m).1 s'),Ar FILE s' cs',Each FileR cs' (withF m nm)]) ?_ ?_
  · intro J hJ
    refine xif (fun h=>?_) (fun h=>?_)
    · have ht:thereL m.fs nm.toList=false:=by simpa using h
      have hle:=findL_le m.fs nm.toList
      refine xcl (rPut_raw b (spendM m).1.room (leftR (spendM m).1) (spendM m).1.down s cs m.fs (nm,⟨none,0,0⟩,0) hi.sorted sf.names (by omega) ht) rdb ?_
      rintro _ _ ⟨s2,rfl⟩
      refine app2 (ca0 ?_)
      refine xadd (A:=FileR (nm,⟨none,0,0⟩,0) ⟨nm,[],0⟩) ⟨rfl,rfl,[],rfl,rfl,.inl ⟨rfl,rfl⟩⟩ ?_
      dsimp only
      refine xfold2 0 2 (Q:=Each FileR (cs.take (findL m.fs nm.toList)++(nm,⟨none,0,0⟩,0)::cs.drop (findL m.fs nm.toList)) (withF m nm)) (fun g hg=>?_) ?_
      · unfold withF
        rw [ht]
        exact each_ins _ hg
      generalize cs.take (findL m.fs nm.toList)++(nm,⟨none,0,0⟩,0)::cs.drop (findL m.fs nm.toList)=cs2
      refine xfact 0 (fun g hg=>sf_of hg) fun sf2=>?_
      have hwl:(withF m nm).length≤1000:=by
        unfold withF
        rw [ht]
        show (insL m.fs _ _).length≤1000
        rw [insL_length _ _ _ hle];omega
      refine xcl (rFind_raw b (spendM m).1.room (leftR (spendM m).1) (spendM m).1.down s2 cs2 (withF m nm) nm hws sf2.names hwl) rdb ?_
      rintro ⟨r,_⟩ _ ⟨h1,rfl⟩
      simp only at h1
      subst h1
      exact app2 (ca1 (hJ _ _ ⟨hwf,s2,cs2,rfl⟩))
    · have ht:thereL m.fs nm.toList=true:=by simpa using h
      refine hJ _ _ ⟨fIdx_yes ht,s,cs,?_⟩
      unfold withF
      rw [ht];rfl
  rintro _ _ ⟨rfl,s',cs',rfl⟩
  obtain ⟨f,hf,hgd,hfu⟩:=withF_get m nm
  rw [hgd] at hinv ⊢
  refine xfact 2 (fun g hg=>sf_of hg) fun sf'=>?_
  have hlt:findL m.fs nm.toList<cs'.length:=by rw [sf'.len];exact (List.getElem?_eq_some_iff.1 hf).1
  have hc:=List.getElem?_eq_getElem hlt
  generalize cs'[findL m.fs nm.toList]=c at hc
  obtain ⟨e1,e2,e3,e4⟩:=sf'.each _ _ _ hc hf
  generalize findL m.fs nm.toList=i at *
  refine xnil (xget (h:=?_))
  refine xidxn (h1:=hlt) (h:=fun _ _=>?_)
  refine xgetEj hc (h:=?_)
  refine xcl (CopyBytes_spec c.2.1 f.b (by omega)) (rds_pick 2 (fun g hg=>each_read (R:=FileR) (S:=fun c f=>RAr U8 c.2.1 f.b) (fun _ _ _ _ h s=>h.mono s) (fun _ _ _ h=>h.2.2.read) hg hc hf) (fun _ _ h s=>h.mono s)) ?_
  rintro ⟨s3,_⟩ _ rfl
  refine app1 (ca1 (xdraw (xnil (xget (h:=?_)))))
  refine xapp (y:=d) (hb:=by omega) (h:=fun s6=>xchk (h:=?_))
  refine xidxn (h1:=hlt) (h:=fun _ _=>?_)
  refine xsetEj (c.1,s6,c.2.2) hc (hj:=by decide) (hv:=rfl) (h:=?_)
  -- Ar FILE, Blk b, ..
  refine xfold [Ar U8 s6 (f.b++bs),Each FileR cs' (withF m nm)] (Each FileR (cs'.set i (c.1,s6,c.2.2)) ((withF m nm).set i { f with b:=f.b++bs })) (fun g hg=>file_new (c':=(c.1,s6,c.2.2)) (f':={ f with b:=f.b++bs }) hc hf e1 e2 g hg) ?_
  exact xrdev_put 1 1 0 b s' (cs'.set i (c.1,s6,c.2.2)) _ hinv (fun _ h=>h) (xret ⟨rfl,rfl⟩)
end Go.Cx
namespace Go.Cx
open Go Go.Cf
set_option linter.unusedVariables false
set_option maxRecDepth 100000
variable {B:Base}{As F:List HP}{α:Type}
theorem rMore_spec (crc:Nat) (hc:crc<4294967296) (b:Sl) (xs:List UInt8) (hm:xs.length≤140737488351232):Ct Pr F_ref01_More32 [.int .u32 (crc:Int),b.v] .one [.int .u32] [] (RAr U8 b xs) (fun t Bs=>t.1=(moreN crc xs:Int)∧Bs=[]):=by
  refine spec1 c_ref01_More32 fun B hr=>?_
  have fb:Fro B b U8 xs:=⟨hr⟩
  have hb:=hr.1
  unfold ref01_More32
  have e0:bits .xor .u32 4294967295 (crc:Int)=((4294967295 ^^^ crc:Nat):Int):=u32_xor_nat 4294967295 crc (by decide) hc
  rw [e0]
  have hi:4294967295 ^^^ crc<4294967296:=xor32_lt (by decide) hc
  refine xloop2 (fun(n:Nat) (r:Int) (i:Int) As=>∃ k:Nat,i=(k:Int)∧r=(runN (4294967295 ^^^ crc) (xs.take k):Int)∧n=xs.length - k∧k≤xs.length∧As=[]) xs.length ⟨0,rfl,rfl,rfl,by omega,rfl⟩ ?_
  rintro n _ _ _ K ⟨k,rfl,rfl,rfl,hk,rfl⟩ hK
  have hlt:=runN_lt (xs.take k) hi
  have hs:k<xs.length→runN (4294967295 ^^^ crc) (xs.take (k+1))=byteN (runN (4294967295 ^^^ crc) (xs.take k)) (xs.getD k 0).toNat:=fun h=>by
    rw [List.take_add_one,List.getElem?_eq_getElem h]
    show runN _ (xs.take k++[xs[k]])=_
    rw [runN_snoc,List.getD_eq_getElem?_getD,List.getElem?_eq_getElem h];rfl
  generalize hr':runN (4294967295 ^^^ crc) (xs.take k)=r at *
  refine xif_dec (fun h=>?_) (fun h=>?_)
  · have hkl:k<xs.length:=by omega
    have hx:=List.getElem?_eq_getElem hkl
    have hy:=u8_lt xs[k]
    have hs:=hs hkl
    rw [List.getD_eq_getElem?_getD,hx] at hs
    simp only [Option.getD_some] at hs
    generalize xs[k]=y at *
    refine xidxn (h1:=hkl) (h:=fun _ _=>?_)
    refine xgetE hx (h:=?_)
    have e1:bits .xor .u32 (r:Int) (IntKind.u32.wrap (y.toNat:Int))=((r ^^^ y.toNat:Nat):Int):=by
      rw [wrap_u32 y.toNat (by omega)]
      exact u32_xor_nat r y.toNat hlt (by omega)
    rw [e1]
    have h2:r ^^^ y.toNat<4294967296:=xor32_lt hlt (by omega)
    refine xloop2 (fun(n:Nat) (r1:Int) (i:Int) As=>∃ j:Nat,i=(j:Int)∧r1=(bitsN j (r ^^^ y.toNat):Int)∧n=8 - j∧j≤8∧As=[]) 8 ⟨0,rfl,rfl,rfl,by omega,rfl⟩ ?_
    rintro n _ _ _ K2 ⟨j,rfl,rfl,rfl,hj,rfl⟩ hK2
    have hl2:=bitsN_lt j h2
    refine xif_dec (fun h=>?_) (fun h=>?_)
    · have hstep:bitsN (j+1) (r ^^^ y.toNat)=bitN (bitsN j (r ^^^ y.toNat)):=rfl
      generalize bitsN j (r ^^^ y.toNat)=q at *
      have eb:=more_bit2 q hl2
      refine xasrt (by decide) (xasrt (by decide) (xjoin ?_))
      rw [wrap_succ j (by omega)]
      refine xif (fun g=>?_) (fun g=>?_)
      · rw [if_pos g] at eb
        rw [eb]
        exact hK2 (8 - (j+1)) _ _ _ (by omega) ⟨j+1,rfl,by rw [hstep],rfl,by omega,rfl⟩
      · rw [if_neg (by rw [g];simp)] at eb
        rw [eb]
        exact hK2 (8 - (j+1)) _ _ _ (by omega) ⟨j+1,rfl,by rw [hstep],rfl,by omega,rfl⟩
    · have:j=8:=by omega
      subst this
      rw [wrap_succ k (by omega)]
      refine hK (xs.length - (k+1)) _ _ _ (by omega) ⟨k+1,rfl,?_,rfl,by omega,rfl⟩
      rw [hs];rfl
  · have:k=xs.length:=by omega
    subst this
    rw [List.take_length] at hr'
    refine xret ⟨?_,rfl⟩
    rw [show bits .xor .u32 4294967295 (r:Int)=((4294967295 ^^^ r:Nat):Int) from u32_xor_nat 4294967295 r (by decide) hlt,←hr']
    rfl
theorem rCrc_spec (b:Sl) (xs:List UInt8) (hm:xs.length≤140737488351232):Ct Pr F_ref01_Crc32 [b.v] .one [.int .u32] [] (RAr U8 b xs) (fun t Bs=>t.1=(moreN 0 xs:Int)∧Bs=[]):=by
  refine spec1 c_ref01_Crc32 fun B hr=>?_
  have fb:Fro B b U8 xs:=⟨hr⟩
  unfold ref01_Crc32
  refine xcl (rMore_spec 0 (by decide) b xs hm) rdb ?_
  rintro ⟨r,_⟩ _ ⟨h,rfl⟩
  exact app0 (ca1 (xret ⟨h,rfl⟩))
theorem rPut13_spec (p:Sl) (xs:List UInt8) (hm:xs.length≤1024):Ct Pr F_ref13_Put [p.v] (.tup [none,none]) [.slice,.int .i64] [] (RAr U8 p xs) (fun t Bs=>t.2.1=0∧Bs=[Ar U8 t.1 (frameN xs)]):=by
  refine spec2 c_ref13_Put fun B hr=>?_
  have fb:Fro B p U8 xs:=⟨hr⟩
  have hp:=hr.1
  unfold ref13_Put
  refine xiff (by rw [←hp];simp;omega) (xasrt (by decide) (xasrt (by decide) ?_))
  have e1:IntKind.u8.wrap (IntKind.i64.wrap ((p.n:Int).tdiv 256))=((UInt8.ofNat (xs.length / 256)).toNat:Int):=by
    rw [show (p.n:Int).tdiv 256=((p.n / 256:Nat):Int) from tdiv_eq p.n 256,wrap_id _ (by omega) (by omega),byte_of,hp]
  have e2:IntKind.u8.wrap ((p.n:Int).tmod 256)=((UInt8.ofNat xs.length).toNat:Int):=by
    rw [show (p.n:Int).tmod 256=((p.n % 256:Nat):Int) from tmod_eq p.n 256,byte_of,hp,UInt8.toNat_ofNat',UInt8.toNat_ofNat']
    omega
  rw [e1,e2]
  refine xnew fun b=>?_
  refine xfold1 (Q:=Ar U8 ⟨some ⟨b,0,none⟩,2,2⟩ (hdN xs.length)) 0 (fun g hg=>⟨[],blk_ar (hdN xs.length) 2 rfl rfl hg⟩) ?_
  refine xcl (rCrc_spec ⟨some ⟨b,0,none⟩,2,2⟩ (hdN xs.length) (by show 2≤_;omega)) rdb ?_
  rintro ⟨r,_⟩ _ ⟨h,rfl⟩
  simp only at h
  subst h
  refine app0 (ca1 ?_)
  refine xcl (rMore_spec (moreN 0 (hdN xs.length)) (moreN_lt (by decide) _) p xs (by omega)) rdb ?_
  rintro ⟨r,_⟩ _ ⟨h,rfl⟩
  simp only at h
  rw [show moreN (moreN 0 (hdN xs.length)) xs=sumN xs from rfl] at h
  subst h
  refine app0 (ca1 (xasrt (by decide) (xasrt (by decide) (xasrt (by decide) ?_))))
  rw [shr_eq (sumN xs) _ 16777216 (by decide),shr_eq (sumN xs) _ 65536 (by decide),shr_eq (sumN xs) _ 256 (by decide),byte_of,byte_of,byte_of,byte_of]
  refine xnew fun b1=>?_
  refine xfold1 (Q:=Ar U8 ⟨some ⟨b1,0,none⟩,4,4⟩ (crcB (sumN xs))) 0 (fun g hg=>⟨[],blk_ar (crcB (sumN xs)) 4 rfl rfl hg⟩) ?_
  refine xapp (s:=⟨some ⟨b,0,none⟩,2,2⟩) (y:=⟨some ⟨b1,0,none⟩,4,4⟩) (hb:=by show (2+4)*1≤_;omega) (h:=fun s=>?_)
  refine xapp (y:=p) (hb:=by rw [List.length_append];show (2+4+_)*1≤_;omega) (h:=fun s1=>?_)
  exact xdrop 0 (xret ⟨rfl,rfl⟩)
theorem rGet13_spec (b:Sl) (xs:List UInt8) (hm:xs.length≤140737488351232) (hcap:b.n≤b.c):Ct Pr F_ref13_Get [b.v] (.tup [none,none,none]) [.slice,.int .i64,.int .i64] [] (RAr U8 b xs)
    (fun t Bs=>t.2.1=((getN xs).2.1:Int)∧t.2.2.1=(getN xs).2.2∧Bs=[Ar U8 t.1 (getN xs).1]):=by
  refine spec3 c_ref13_Get fun B hr=>?_
  have fb:Fro B b U8 xs:=⟨hr⟩
  have hb:=hr.1
  unfold ref13_Get
  refine xif_dec (fun h=>?_) (fun h=>?_)
  · refine xnone U8 (xret ?_)
    unfold getN
    rw [if_pos (by omega)]
    exact ⟨rfl,rfl,rfl⟩
  have h6:6≤xs.length:=by omega
  have x0:=List.getElem?_eq_getElem (l:=xs) (i:=0) (by omega)
  have x1:=List.getElem?_eq_getElem (l:=xs) (i:=1) (by omega)
  have hfl:frLen xs=xs[0].toNat*256+xs[1].toNat:=by unfold frLen;rw [getD_of x0,getD_of x1]
  generalize xs[0]=y0 at *
  generalize xs[1]=y1 at *
  have hy0:=u8_lt y0
  have hy1:=u8_lt y1
  refine xdraw ?_
  refine xidxn (k:=0) (h1:=by omega) (h:=fun _ _=>?_)
  refine xgetE x0 (h:=?_)
  refine xidxn (k:=1) (h1:=by omega) (h:=fun _ _=>?_)
  refine xgetE x1 (h:=?_)
  have el:IntKind.i64.wrap ((IntKind.i64.wrap ((IntKind.i64.wrap (y0.toNat:Int))*256))+(IntKind.i64.wrap (y1.toNat:Int)))=((frLen xs:Nat):Int):=by
    rw [wrap_id (y0.toNat:Int) (by omega) (by omega),wrap_id ((y0.toNat:Int)*256) (by omega) (by omega),wrap_id (y1.toNat:Int) (by omega) (by omega),wrap_id _ (by omega) (by omega),hfl]
    omega
  rw [el]
  refine xif_dec (fun g=>?_) (fun g=>?_)
  · refine xnone U8 (xret ?_)
    unfold getN
    rw [if_neg (by omega),if_pos (by omega)]
    exact ⟨rfl,rfl,rfl⟩
  rw [show IntKind.i64.wrap (6+((frLen xs:Nat):Int))=((6+frLen xs:Nat):Int) by rw [wrap_id _ (by omega) (by omega)];omega,wrap_id ((b.n:Int) - 6) (by omega) (by omega)]
  refine xif_dec (fun g2=>?_) (fun g2=>?_)
  · refine xnone U8 (xret ?_)
    unfold getN
    rw [if_neg (by omega),if_neg (by omega),if_pos (by omega)]
    exact ⟨rfl,rfl,rfl⟩
  have hgo:getN xs=if crcOf xs=sumN ((xs.take (6+frLen xs)).drop 6) then ((xs.take (6+frLen xs)).drop 6,6+frLen xs,0) else ([],0,5):=by
    unfold getN
    rw [if_neg (by omega),if_neg (by omega),if_neg (by omega)]
  have fc:Fro B (b.cut 6 (6+frLen xs) b.c 1) U8 ((xs.take (6+frLen xs)).drop 6):=⟨hr.cut 6 (6+frLen xs) b.c (by omega) (by omega) (by omega)⟩
  have hpl:((xs.take (6+frLen xs)).drop 6).length=frLen xs:=by simp;omega
  generalize (xs.take (6+frLen xs)).drop 6=q at *
  refine xnew fun b1=>?_
  refine xfold1 (Q:=Ar U8 ⟨some ⟨b1,0,none⟩,0,0⟩ []) 0 (fun g hg=>⟨[],blk_ar [] 0 rfl rfl hg⟩) ?_
  refine xslc (by omega) (by omega) (by omega) (by omega) ?_
  simp only [Int.toNat_natCast]
  refine xapp (s:=⟨some ⟨b1,0,none⟩,0,0⟩) (y:=b.cut 6 (6+frLen xs) b.c 1) (hb:=by rw [hpl];simp;omega) (h:=fun s1=>?_)
  rw [List.nil_append]
  refine xcl (rPut13_spec s1 q (by omega)) rdb ?_
  rintro ⟨s2,r,_⟩ _ ⟨_,rfl⟩
  refine app1 (ca2 ?_)
  have hfrl:(frameN q).length=6+q.length:=by unfold frameN;rw [List.length_append];rfl
  have hiff:=crc_iff xs q h6
  refine xloop1 (fun n i As=>∃ k:Nat,i=(k:Int)∧n=6 - k∧2≤k∧k≤6∧(∀ j,2≤j→j<k→xs[j]? = (frameN q)[j]?)∧As=[Ar U8 s2 (frameN q),Ar U8 s1 q]) 4 ⟨2,rfl,rfl,by omega,by omega,by intro j h1 h2;omega,rfl⟩ ?_
  rintro n _ _ K ⟨k,rfl,rfl,hk2,hk6,heq,rfl⟩ hK
  refine xif_dec (fun hk=>?_) (fun hk=>?_)
  · have hx:=List.getElem?_eq_getElem (l:=xs) (i:=k) (by omega)
    have hf:=List.getElem?_eq_getElem (l:=frameN q) (i:=k) (by omega)
    generalize xs[k]=x at hx
    generalize (frameN q)[k]=c at hf
    refine xdraw ?_
    refine xidxn (h1:=by omega) (h:=fun _ _=>?_)
    refine xgetE hx (h:=?_)
    refine xidxn (h1:=by omega) (h:=fun _ _=>?_)
    refine xgetE hf (h:=?_)
    refine xif (fun e=>?_) (fun e=>?_)
    · have hne:¬ crcOf xs=sumN q:=fun h=>by
        have:=hiff.1 h k hk2 (by omega)
        rw [hx,hf] at this
        cases this
        simp at e
      rw [hgo,if_neg hne]
      exact xdrop 0 (xdrop 0 (xnone U8 (xret ⟨rfl,rfl,rfl⟩)))
    · have hxc:x=c:=UInt8.toNat_inj.1 (by simp at e;omega)
      rw [wrap_succ k (by omega)]
      refine hK (6 - (k+1)) _ _ (by omega) ⟨k+1,rfl,rfl,by omega,by omega,fun j h1 h2=>?_,rfl⟩
      rcases Nat.lt_or_ge j k with h3 | h3
      · exact heq j h1 h3
      · obtain rfl:j=k:=by omega
        rw [hx,hf,hxc]
  · have hk':k=6:=by omega
    subst hk'
    rw [hgo,if_pos (hiff.2 heq)]
    exact xdrop 0 (xret ⟨rfl,rfl,rfl⟩)
theorem rFits_spec (v:Nat) (hv:v<18446744073709551616):Ct Pr F_ref02_Fits [.int .u64 (v:Int),.int .i64 8] .one [.bool] [] emp (fun t Bs=>t.1=true∧Bs=[]):=by
  refine spec1 c_ref02_Fits fun B _=>?_
  unfold ref02_Fits
  refine xiff rfl ?_
  refine xloop2 (fun(n:Nat) (x:Int) (i:Int) As=>∃ k:Nat,i=(k:Int)∧x=((v / 256 ^ k:Nat):Int)∧n=8 - k∧k≤8∧As=[]) 8 ⟨0,rfl,by simp,rfl,by omega,rfl⟩ ?_
  rintro n _ _ _ K ⟨k,rfl,rfl,rfl,hk,rfl⟩ hK
  refine xif_dec (fun h=>?_) (fun h=>?_)
  · have e:IntKind.u64.wrap (((v / 256 ^ k:Nat):Int).tdiv 256)=((v / 256 ^ (k+1):Nat):Int):=by
      have hle:=Nat.div_le_self v (256 ^ k)
      have hle2:=Nat.div_le_self (v / 256 ^ k) 256
      rw [show (((v / 256 ^ k:Nat):Int).tdiv 256)=((v / 256 ^ k / 256:Nat):Int) from tdiv_eq _ 256,wrap_u64 _ (by omega),Nat.div_div_eq_div_mul,Nat.pow_succ]
    refine xasrt (by decide) ?_
    rw [e,wrap_succ k (by omega)]
    exact hK (8 - (k+1)) _ _ _ (by omega) ⟨k+1,rfl,rfl,rfl,by omega,rfl⟩
  · have hk8:k=8:=by omega
    subst hk8
    refine xret ⟨?_,rfl⟩
    have:v / 256 ^ 8=0:=Nat.div_eq_of_lt (by omega)
    show (((v / 256 ^ 8:Nat):Int) == 0)=true
    rw [this];rfl
theorem rPut02_spec (b:Sl) (xs:List UInt8) (v:Nat) (hv:v<18446744073709551616) (hm:xs.length≤1048576):Ct Pr F_ref02_Put [b.v,.int .u64 (v:Int),.int .i64 8] (.tup [none,none]) [.slice,.int .i64] [] (RAr U8 b xs)
    (fun t Bs=>t.2.1=0∧Bs=[Ar U8 t.1 (xs++be8 v)]):=by
  refine spec2 c_ref02_Put fun B hr=>?_
  have fb:Fro B b U8 xs:=⟨hr⟩
  have hb:=hr.1
  unfold ref02_Put
  refine xcl (rFits_spec v hv) rdb ?_
  rintro ⟨c,_⟩ _ ⟨h,rfl⟩
  obtain rfl:c=true:=h
  refine app0 (ca1 (xiff rfl (xnone U8 ?_)))
  refine xloop2 (fun n o i As=>∃ k:Nat,i=(k:Int)∧n=xs.length - k∧k≤xs.length∧As=[Ar U8 o (xs.take k)]) xs.length ⟨0,rfl,rfl,by omega,rfl⟩ ?_
  rintro n o _ _ K ⟨k,rfl,rfl,hk,rfl⟩ hK
  refine xif_dec (fun h=>?_) (fun h=>?_)
  · have hx:=List.getElem?_eq_getElem (l:=xs) (i:=k) (by omega)
    refine xidxn (h1:=by omega) (h:=fun _ _=>?_)
    refine xgetE hx (h:=xnew fun b1=>?_)
    refine xapp1 xs[k] (hb:=by simp;omega) (h:=fun s'=>?_)
    rw [wrap_succ k (by omega)]
    refine hK (xs.length - (k+1)) _ _ _ (by omega) ⟨k+1,rfl,rfl,by omega,?_⟩
    rw [List.take_add_one,hx];rfl
  · have hk':k=xs.length:=by omega
    subst hk'
    rw [List.take_length]
    clear hK h K
    refine xloop2 (fun n o i As=>∃ k:Nat,i=7 - (k:Int)∧n=8 - k∧k≤8∧As=[Ar U8 o (xs++(be8 v).take k)]) 8 ⟨0,by rw [wrap_id _ (by omega) (by omega)];rfl,rfl,by omega,by simp⟩ ?_
    rintro n o1 _ _ K ⟨k,rfl,rfl,hk,rfl⟩ hK
    refine xif_dec (fun h=>?_) (fun h=>?_)
    · refine xloop2 (fun(n:Nat) (x:Int) (i:Int) As=>∃ t:Nat,i=(t:Int)∧x=((v / 256 ^ t:Nat):Int)∧n=7 - k - t∧t≤7 - k∧As=[Ar U8 o1 (xs++(be8 v).take k)]) (7 - k) ⟨0,rfl,by simp,rfl,by omega,rfl⟩ ?_
      rintro n _ _ _ K2 ⟨t,rfl,rfl,rfl,ht,rfl⟩ hK2
      refine xif_dec (fun h=>?_) (fun h=>?_)
      · have e:IntKind.u64.wrap (((v / 256 ^ t:Nat):Int).tdiv 256)=((v / 256 ^ (t+1):Nat):Int):=by
          have hle:=Nat.div_le_self v (256 ^ t)
          have hle2:=Nat.div_le_self (v / 256 ^ t) 256
          rw [show (((v / 256 ^ t:Nat):Int).tdiv 256)=((v / 256 ^ t / 256:Nat):Int) from tdiv_eq _ 256,wrap_u64 _ (by omega),Nat.div_div_eq_div_mul,Nat.pow_succ]
        refine xasrt (by decide) ?_
        rw [e,wrap_succ t (by omega)]
        exact hK2 (7 - k - (t+1)) _ _ _ (by omega) ⟨t+1,rfl,rfl,rfl,by omega,rfl⟩
      · have ht':t=7 - k:=by omega
        subst ht'
        have e2:IntKind.u8.wrap (((v / 256 ^ (7 - k):Nat):Int).tmod 256)=((UInt8.ofNat (v / 256 ^ (7 - k))).toNat:Int):=by
          rw [show (((v / 256 ^ (7 - k):Nat):Int).tmod 256)=((v / 256 ^ (7 - k) % 256:Nat):Int) from tmod_eq _ 256,byte_of,UInt8.toNat_ofNat',UInt8.toNat_ofNat']
          omega
        rw [e2]
        refine xasrt (by decide) (xnew fun b2=>?_)
        refine xapp1 (UInt8.ofNat (v / 256 ^ (7 - k))) (hb:=by have:=be8_len v;simp;omega) (h:=fun s'=>?_)
        rw [show IntKind.i64.wrap ((7:Int) - (k:Int) - 1)=7 - ((k+1:Nat):Int) by rw [wrap_id _ (by omega) (by omega)];omega]
        refine hK (8 - (k+1)) _ _ _ (by omega) ⟨k+1,rfl,rfl,by omega,?_⟩
        rw [List.take_add_one,be8_get v (by omega),List.append_assoc];rfl
    · have hk8:k=8:=by omega
      subst hk8
      rw [List.take_of_length_le (by rw [be8_len];omega)]
      exact xret ⟨rfl,rfl⟩
theorem rGet02_spec (b:Sl) (xs:List UInt8) (a:Nat) (ha:a+8≤xs.length) (hm:xs.length≤140737488351232):Ct Pr F_ref02_Get [b.v,.int .i64 (a:Int),.int .i64 8] (.tup [none,none]) [.int .u64,.int .i64] [] (RAr U8 b xs)
    (fun t Bs=>t.1=(beV (cut8 xs a):Int)∧t.2.1=0∧Bs=[]):=by
  refine spec2 c_ref02_Get fun B hr=>?_
  have fb:Fro B b U8 xs:=⟨hr⟩
  have hb:=hr.1
  unfold ref02_Get
  refine xiff rfl (xiff ?_ ?_)
  · rw [wrap_id _ (by omega) (by omega)]
    simp;omega
  have hq:=cut8_len ha
  have hg:=fun k (hk:k<8)=>cut8_get (xs:=xs) (a:=a) hk
  generalize cut8 xs a=q at *
  refine xloop2 (fun(n:Nat) (v:Int) (i:Int) As=>∃ k:Nat,i=(k:Int)∧v=((beV (q.take k):Nat):Int)∧n=8 - k∧k≤8∧As=[]) 8 ⟨0,rfl,rfl,rfl,by omega,rfl⟩ ?_
  rintro n _ _ _ K ⟨k,rfl,rfl,rfl,hk,rfl⟩ hK
  refine xif_dec (fun h=>?_) (fun h=>?_)
  · have hk8:k<8:=by omega
    have hx:=List.getElem?_eq_getElem (l:=q) (i:=k) (by omega)
    have hx2:=(hg k hk8).symm.trans hx
    have hsm:=beV_small hq hk8
    have hst:=beV_step hx
    have hy:=u8_lt q[k]
    generalize q[k]=y at *
    rw [show IntKind.i64.wrap ((a:Int)+(k:Int))=((a+k:Nat):Int) by rw [wrap_id _ (by omega) (by omega)];omega]
    refine xidxn (h1:=by omega) (h:=fun _ _=>?_)
    refine xgetE hx2 (h:=?_)
    rw [show ((beV (q.take k):Nat):Int)*256=((beV (q.take k)*256:Nat):Int) by omega,wrap_u64 _ (by omega),wrap_u64 _ (by omega),show ((beV (q.take k)*256:Nat):Int)+(y.toNat:Int)=((beV (q.take k)*256+y.toNat:Nat):Int) by omega,wrap_u64 _ (by omega),wrap_succ k (by omega)]
    exact hK (8 - (k+1)) _ _ _ (by omega) ⟨k+1,rfl,by rw [hst],rfl,by omega,rfl⟩
  · have hk8:k=8:=by omega
    subst hk8
    rw [List.take_of_length_le (by omega)]
    exact xret ⟨rfl,rfl,rfl⟩
theorem rScan_spec (b:Sl) (xs:List UInt8) (hm:xs.length≤16777216) (hcap:b.n≤b.c):Ct Pr F_ref13_Scan [b.v] (.tup [none,none]) [.slice,.int .i64] [] (RAr U8 b xs)
    (fun t Bs=>t.2.1=((scanN xs).2:Int)∧∃ rs,Bs=[Ar SL t.1 rs,Each (Ar U8) rs (scanN xs).1]):=by
  refine spec2 c_ref13_Scan fun B hr=>?_
  have fb:Fro B b U8 xs:=⟨hr⟩
  have hb:=hr.1
  have hlen:=(scan_used xs.length xs (Nat.le_refl _)).2.1
  unfold ref13_Scan
  refine xnone SL ?_
  refine xadd (A:=Each (Ar U8) [] []) trivial ?_
  refine xloop2 (fun n l i As=>∃ (k:Nat) (rs:List Sl) (done:List (List UInt8)),i=(k:Int)∧n=xs.length - k∧k≤xs.length∧scanN xs=(done++(scanN (xs.drop k)).1,k+(scanN (xs.drop k)).2)∧As=[Each (Ar U8) rs done,Ar SL l rs]) xs.length ⟨0,[],[],rfl,rfl,by omega,by simp,rfl⟩ ?_
  rintro n l _ _ K ⟨k,rs,done,rfl,rfl,hk,hsc,rfl⟩ hK
  refine xslc (by omega) (by omega) (by omega) (by omega) ?_
  simp only [Int.toNat_natCast]
  have hdl:(xs.drop k).length=xs.length - k:=List.length_drop
  refine xcl (pre:=[]) (G:=[Each (Ar U8) rs done,Ar SL l rs]) (rGet13_spec (b.cut k b.n b.c 1) (xs.drop k) (by omega) (by simp only [Sl.cut];omega)) (rds_of fun g hg _ _ _=>(cut_to_end b xs hr k hk hcap).mono hg) ?_
  rintro ⟨s1,r,r1,_⟩ _ ⟨h1,h2,rfl⟩
  simp only at h1 h2
  subst h1 h2
  refine app1 (ca3 ?_)
  refine xif (fun h=>?_) (fun h=>?_)
  · have h:¬ (getN (xs.drop k)).2.2=0:=by simpa using h
    rw [scan_no h] at hsc
    refine xuse [Ar SL l rs,Each (Ar U8) rs done] (xret ⟨?_,rs,?_⟩)
    · rw [hsc];simp
    · rw [hsc];simp
  · have h:(getN (xs.drop k)).2.2=0:=by simpa using h
    obtain ⟨g1,g2,_⟩:=getN_ok h
    rw [scan_ok h] at hsc
    refine xfact 1 (fun g hg=>Each.length hg) fun hrl=>?_
    have hdn:done.length+1≤xs.length:=by
      have:=congrArg (fun p=>p.1.length) hsc
      simp only [List.length_append,List.length_cons] at this
      omega
    refine xnew fun b1=>?_
    refine xapp1 s1 (hb:=by omega) (h:=fun s2=>?_)
    rw [show IntKind.i64.wrap ((k:Int)+((getN (xs.drop k)).2.1:Int))=((k+(getN (xs.drop k)).2.1:Nat):Int) by rw [wrap_id _ (by omega) (by omega)];omega]
    refine xfold [Each (Ar U8) rs done,Ar U8 s1 (getN (xs.drop k)).1] (Each (Ar U8) (rs++[s1]) (done++[(getN (xs.drop k)).1])) (fun g hg=>each_snoc hg) ?_
    refine hK (xs.length - (k+(getN (xs.drop k)).2.1)) _ _ _ (by omega) ⟨k+(getN (xs.drop k)).2.1,rs++[s1],done++[(getN (xs.drop k)).1],rfl,rfl,by omega,?_,rfl⟩
    rw [List.drop_drop] at hsc
    rw [hsc]
    simp [Nat.add_assoc]
end Go.Cx
