/-
  A log in segments is trimmed, whatever is to be kept.
  The document's log: Append and Trim with their codes.
  From other seats: Looks_spec, Wake_spec, rWake_spec, rArm_spec, Arm_spec, SameTexts_spec.
  From other seats: LentBytes_spec, KeptBytes_spec.
  A log and its device: what is so of both, whatever is done.
  A log and its device: kept by every call.
  A log and its device: kept by Trim; what is so behind Open.
  A log and its device: what is so behind Open.
-/
import Derived.Test.YtffoldlhonbafaaGreatDoorVX
import Derived.Test.YtffoldlhonbafaaGreatDoorVY
import Derived.Test.YtffoldlhonbafaaGreatDoorDK
import Derived.Test.YtffoldlhonbafaaGreatDoorRD
namespace Go.Cx
open Go Go.Cf
set_option linter.unusedVariables false
set_option maxRecDepth 100000
variable {B:Base}{As F:List HP}{α:Type}
theorem dropsK_raw (b:Nat) (p:Option Addr) (l:LM) (s:Sl) (cs:List CS) (to keep:Int) (hkeep:i64 keep) (hs:s.n=cs.length) (hf:LF cs l.segs) (hi:LInv l):Ct Pr F_segs_Log_drops [.pointer (some ⟨b,0,none⟩),.int .i64 to,.int .i64 keep] .one [.int .i64] [Blk b (logCells p l s),Ar SEG s cs] emp
    (fun t Bs=>t.1=(dropsL l to keep:Int)∧Bs=[Blk b (logCells p l s),Ar SEG s cs]):=by
  refine spec1 c_segs_Log_drops fun B _=>?_
  unfold segs_Log_drops
  have hfew:=hi.few
  have hl:=hf.len
  refine xdraw (xnil (xget (h:=?_)))
  obtain ⟨k1,k2⟩:=hkeep
  have e1:(if (1:Int)>keep then (1:Int) else keep)=max keep 1:=by rw [Int.max_def];split<;>split<;>omega
  have e2:max keep 1=(((max keep 1).toNat:Nat):Int):=by omega
  have e3:1≤(max keep 1).toNat:=by omega
  have e4:max keep 1≤9223372036854775807:=by omega
  rw [e1]
  generalize hME:(max keep 1).toNat=M at *
  rw [e2]
  rw [wrap_id _ (by omega) (by omega)]
  have hMd:(max keep 1).toNat=M:=hME
  generalize hL:l.segs.take (l.segs.length - M)=L
  have hd:dropsL l to keep=(L.takeWhile fun s=>decide (s.next≤min to l.safe)).length:=by unfold dropsL;rw [hMd,hL]
  have hget:∀ k:Nat,L[k]? = if k<cs.length - M then l.segs[k]? else none:=fun k=>by
    rw [←hL,List.getElem?_take,hl]
  rw [hd]
  refine xloop1 (fun n (x:Int) As'=>∃ k:Nat,x=(k:Int)∧n=cs.length - k∧k≤cs.length∧k≤(L.takeWhile fun s=>decide (s.next≤min to l.safe)).length∧As'=[Blk b (logCells p l s),Ar SEG s cs]) cs.length ⟨0,rfl,rfl,by omega,by omega,rfl⟩ ?_
  rintro n _ _ K ⟨k,rfl,rfl,hk,hk2,rfl⟩ hK
  refine xdraw (xjoin1 (fun(c:Bool) As'=>(c=true→k+1≤(L.takeWhile fun s=>decide (s.next≤min to l.safe)).length∧k+1≤cs.length)∧(c=false→(L.takeWhile fun s=>decide (s.next≤min to l.safe)).length=k)∧As'=[Blk b (logCells p l s),Ar SEG s cs]) (fun K1 hK1=>?_) ?_)
  · refine xif_dec (fun h=>?_) (fun h=>?_)
    · have hlt:k<cs.length - M:=by omega
      obtain ⟨c,hc⟩:∃ c,cs[k]? = some c:=⟨_,List.getElem?_eq_getElem (by omega)⟩
      obtain ⟨sg,hsg⟩:∃ sg,l.segs[k]? = some sg:=⟨_,List.getElem?_eq_getElem (by omega)⟩
      obtain ⟨g1,g2,g3,g4,g5⟩:=hf.each k c sg hc hsg
      obtain ⟨b1,b2,b3,b4,b5⟩:=hi.segs sg (List.mem_of_getElem? hsg)
      have hLk:L[k]? = some sg:=by rw [hget,if_pos hlt,hsg]
      refine xnil (xget (h:=?_))
      refine xidxn (E:=SEG) (xs:=cs) (s:=s) (h1:=by omega) (h:=fun _ _=>?_)
      refine xgetE (E:=SEG) (xs:=cs) hc (h:=?_)
      iterate 3 (refine xgetEj (E:=SEG) (xs:=cs) hc (h:=?_))
      refine xnil (xget (h:=?_))
      refine xcall0 (segnext_spec c.1 c.2.1 c.2.2.1 c.2.2.2) rdb ?_
      rintro ⟨t,_⟩ _ ⟨ht,rfl⟩
      simp only at ht;subst ht
      have hnx:IntKind.i64.wrap (c.2.1+(c.2.2.2.n:Int))=sg.next:=by
        rw [wrap_id _ (by omega) (by omega),g2,g4];rfl
      refine app0 (ca1 (xchk (h:=?_)))
      rw [hnx]
      have hmin:(decide (sg.next≤if l.safe<to then l.safe else to))=decide (sg.next≤min to l.safe):=by
        congr 1
        rw [Int.min_def]
        split<;>split <;> (first | rfl | (apply propext;constructor<;>intro<;>omega))
      rw [hmin]
      exact hK1 _ _ ⟨fun e=>⟨tw_step hk2 hLk e,by omega⟩,fun e=>tw_stop hk2 fun y hy=>by
        rw [hLk] at hy
        obtain rfl:=Option.some.inj hy
        exact e,rfl⟩
    · refine hK1 _ _ ⟨fun e=>(by cases e),fun _=>tw_stop hk2 fun y hy=>?_,rfl⟩
      rw [hget,if_neg (by omega)] at hy;cases hy
  · rintro c _ ⟨h1,h2,rfl⟩
    refine xif (fun h=>?_) (fun h=>?_)
    · obtain ⟨q1,q2⟩:=h1 h
      rw [wrap_succ k (by omega)]
      exact hK (cs.length - (k+1)) _ _ (by omega) ⟨k+1,rfl,rfl,by omega,q1,rfl⟩
    · exact xret ⟨by rw [h2 h],rfl⟩
theorem segTrimK_spec (q p:Option Addr) (m:DM) (l:LM) (to keep:Int) (hkeep:i64 keep):Ct Pr F_segs_Log_Trim [.pointer q,.int .i64 to,.int .i64 keep] .one [.int .i64] [LogObj q p l,DevObj p m] GTab
    (fun t Bs=>t.1=(trimL m l to keep).2.2∧Bs=[LogObj q p (trimL m l to keep).2.1,DevObj p (trimL m l to keep).1]):=by
  refine spec1 c_segs_Log_Trim fun B hr=>?_
  haveI:FroP B GTab:=⟨hr,fun _ _ h s=>GTab.mono _ _ h s⟩
  unfold segs_Log_Trim
  refine xfact 0 (P1:=LogObj q p l) (fun g hg=>hg.1) fun hi0=>?_
  have hinv:=trim_inv hi0 m to keep
  unfold trimL at hinv ⊢
  dsimp only at hinv ⊢
  refine xlog 0 fun hi b s cs hq hf hs=>?_
  subst hq
  have back:∀ {As:List HP}(m':DM) {G F':List HP} [q:Split [Blk b (logCells p l s),Ar SEG s cs,Each SegR cs l.segs] As G] [q2:Find (DevObj p m') G F'] {x:Int},Ent B As (Ret B (ss:=[.int .i64]) (fun t Bs=>t.1=x∧Bs=[LogObj (some ⟨b,0,none⟩) p l,DevObj p m']) (x,())):=by
    intro As m' G F' q q2 x
    refine xlog_back (p:=p) (l:=l) b s cs hi ?_
    exact xuse [LogObj (some ⟨b,0,none⟩) p l,DevObj p m'] (xret ⟨rfl,rfl⟩)
  refine xcl (alive_raw b p m l s) rdb ?_
  rintro ⟨t,_⟩ _ ⟨ht,rfl⟩
  simp only at ht
  cases hd:m.down with
  | true=>
    rw [hd] at ht
    obtain rfl:t=10:=ht
    rw [if_pos rfl]
    exact app2 (ca1 (xift rfl (back m)))
  | false=>
  rw [hd] at ht
  obtain rfl:t=0:=ht
  rw [if_neg (by decide)]
  rw [hd,if_neg (by decide)] at hinv
  refine app2 (ca1 (xiff rfl ?_))
  refine xcl (dropsK_raw b p l s cs to keep hkeep hs hf hi) rdb ?_
  rintro ⟨t,_⟩ _ ⟨ht,rfl⟩
  simp only at ht;subst ht
  have hkl:dropsL l to keep≤l.segs.length - 1:=by
    unfold dropsL
    refine Nat.le_trans (List.takeWhile_sublist _).length_le ?_
    rw [List.length_take];omega
  refine app2 (ca1 (xif (fun h=>?_) (fun h=>?_)))
  · have h':dropsL l to keep=0:=by have:=eq_of_beq h;omega
    rw [if_pos h']
    exact back m
  have h':dropsL l to keep≠0:=fun e=>by rw [e] at h;simp at h
  rw [if_neg h'] at hinv ⊢
  generalize hkE:dropsL l to keep=k at *
  have hfew:=hi.few
  have hlen:=hf.len
  have hk:k<l.segs.length:=by omega
  obtain ⟨sg,hsg⟩:∃ sg,l.segs[k]? = some sg:=⟨_,List.getElem?_eq_getElem hk⟩
  obtain ⟨c,hc⟩:∃ c,cs[k]? = some c:=⟨_,List.getElem?_eq_getElem (by omega)⟩
  rw [hsg] at hinv ⊢
  simp only [Option.getD_some] at hinv ⊢
  obtain ⟨g1,g2,g3,g4,g5⟩:=hf.each k c sg hc hsg
  obtain ⟨b1,b2,b3,b4,b5⟩:=hi.segs sg (List.mem_of_getElem? hsg)
  refine xnil (xget (h:=?_))
  refine xidxn (E:=SEG) (xs:=cs) (s:=s) (h1:=by omega) (h:=fun _ _=>?_)
  refine xgetE (E:=SEG) (xs:=cs) hc (h:=?_)
  iterate 3 (refine xgetEj (E:=SEG) (xs:=cs) hc (h:=?_))
  rw [g1,g2,g3]
  refine xcl (layHead_raw b p m l s c.2.2.2 sg ⟨by omega,by omega⟩ ⟨by omega,by omega⟩) rdb ?_
  rintro ⟨t,_⟩ _ ⟨ht,rfl⟩
  simp only at ht;subst ht
  refine app2 (ca1 (xif (fun h=>?_) (fun h=>?_)))
  · rw [if_pos (by simpa using h)]
    exact back (layM m sg).1
  have h5:¬ (layM m sg).2≠0:=by simpa using h
  rw [if_neg h5] at hinv ⊢
  generalize (layM m sg).1=m1 at *
  refine xlen (E:=SEG) (xs:=cs) s fun hsn0 hsc0=>?_
  refine xnil (xget (h:=xslc0 rfl (by omega) (by omega) ?_))
  simp only [Int.toNat_natCast]
  have htk:(l.segs.take k).length=k:=by simp;omega
  refine xuse [Blk b (logCells p l s),Ar SEG s cs,Each SegR cs l.segs,DevObj p m1] ?_
  refine xloop1 (fun n (x:Int) As'=>∃ (j:Nat) (m2:DM),x=(j:Int)∧n=k - j∧j≤k∧goneM (l.segs.take k) m1=goneM ((l.segs.take k).drop j) m2∧As'=[Blk b (logCells p l s),Ar SEG s cs,Each SegR cs l.segs,DevObj p m2]) k ⟨0,m1,rfl,rfl,by omega,rfl,rfl⟩ ?_
  rintro n _ _ K ⟨j,m2,rfl,rfl,hj,hg,rfl⟩ hK
  refine xif_dec (fun h6=>?_) (fun h6=>?_)
  · have hjk:j<k:=by
      have h6:(j:Int)<(k:Int):=h6
      omega
    obtain ⟨sj,hsj⟩:∃ x,l.segs[j]? = some x:=⟨_,List.getElem?_eq_getElem (by omega)⟩
    obtain ⟨cj,hcj⟩:∃ x,cs[j]? = some x:=⟨_,List.getElem?_eq_getElem (by omega)⟩
    obtain ⟨q1,q2,q3,q4,q5⟩:=hf.each j cj sj hcj hsj
    obtain ⟨r1,r2,r3,r4,r5⟩:=hi.segs sj (List.mem_of_getElem? hsj)
    have htj:(cs.take k)[j]? = some cj:=by rw [List.getElem?_take_of_lt hjk];exact hcj
    have hdrop:(l.segs.take k).drop j=sj::(l.segs.take k).drop (j+1):=by
      rw [List.drop_eq_getElem_cons (by omega)]
      have:(l.segs.take k)[j]? = some sj:=by rw [List.getElem?_take_of_lt hjk];exact hsj
      rw [List.getElem?_eq_getElem (by omega)] at this
      rw [Option.some.inj this]
    rw [hdrop,goneM] at hg
    have rd:RdA B [Blk b (logCells p l s),Ar SEG s cs,Each SegR cs l.segs,DevObj p m2] ⟨s.p,k,s.c⟩ SEG (cs.take k):=⟨fun w hw=>by
      obtain ⟨g,⟨a1,c1,_,⟨a2,c2,p2,_,_,t2,_⟩,_,_,u1⟩,hm,_⟩:=hw
      have hcap:s.n≤s.c:=by obtain ⟨zs,hz⟩:=p2;exact hz.cap
      have:=(p2.read.mono (t2.trans (u1.trans hm))).cut 0 k s.c (by omega) (by omega) (by omega)
      rw [List.drop_zero,show SEG.sz=4 from rfl,cut_zero] at this
      exact this⟩
    refine xidxn (r:=rd) (E:=SEG) (xs:=cs.take k) (s:=⟨s.p,k,s.c⟩) (h1:=by rw [List.length_take];omega) (h:=fun _ _=>?_)
    refine xgetE (r:=rd) (E:=SEG) (xs:=cs.take k) htj (h:=?_)
    iterate 3 (refine xgetEj (r:=rd) (E:=SEG) (xs:=cs.take k) htj (h:=?_))
    refine xnew fun b5=>?_
    iterate 4 (refine xset (h:=?_))
    refine xdraw (xnil (xget (h:=xget (h:=?_))))
    rw [q1]
    refine xfile (by omega) (by omega) ?_
    refine xchk (h:=?_)
    refine xcl (Remove_spec p m2 (fN sj.n)) rdb ?_
    rintro ⟨t,_⟩ _ ⟨ht,rfl⟩
    simp only at ht;subst ht
    refine app1 (ca1 (xif (fun h7=>?_) (fun h7=>?_)))
    · have h7':(removeM m2 (fN sj.n)).2≠0:=by simpa using h7
      rw [if_pos h7'] at hg
      rw [hg,if_pos h7']
      exact back (removeM m2 (fN sj.n)).1
    · have h7':¬ (removeM m2 (fN sj.n)).2≠0:=by simpa using h7
      rw [if_neg h7'] at hg
      rw [wrap_succ j (by omega)]
      exact xuse' (hK (k - (j+1)) _ _ (by omega) ⟨j+1,(removeM m2 (fN sj.n)).1,rfl,rfl,by omega,hg,rfl⟩)
  · have hjk:j=k:=by
      have h6:¬ (j:Int)<(k:Int):=h6
      omega
    subst hjk
    rw [List.drop_eq_nil_of_le (by omega),goneM] at hg
    rw [hg,if_neg (by simp)] at hinv ⊢
    refine xnil (xget (h:=?_))
    refine xlen (E:=SEG) (xs:=cs) s fun hsn hsc=>?_
    refine xslc (by omega) (by omega) (by omega) (by omega) ?_
    simp only [Int.toNat_natCast]
    refine xcl (pre:=[]) (SegClone_spec (s.cut j s.n s.c 4) (cs.drop j) (by rw [List.length_drop];omega) (by rw [List.length_drop];omega)) (rds_of fun g _ hF hs hm=>?_) ?_
    · obtain ⟨a1,c1,_,⟨a2,c2,p2,_,_,t2,_⟩,_,_,u1⟩:=hs
      have:=(p2.read.mono (t2.trans (u1.trans hm))).cut j s.n s.c (by omega) hsc (by omega)
      rw [List.take_of_length_le (by omega)] at this
      exact this
    rintro ⟨s7,_⟩ _ rfl
    refine app1 (ca1 (xnil (xset (h:=?_))))
    refine xunf 3 (P1:=Each SegR cs l.segs) [Each SegR (cs.take j) (l.segs.take j),Each SegR (cs.drop j) (l.segs.drop j)] (fun g hg=>each_part j hg) (app2 ?_)
    refine xlog_back (p:=p) (l:={ l with segs:=l.segs.drop j }) b s7 (cs.drop j) hinv ?_
    exact xuse [LogObj (some ⟨b,0,none⟩) p { l with segs:=l.segs.drop j },DevObj p m2] (xret ⟨rfl,rfl⟩)
end Go.Cx
namespace Go.Cx
open Go Go.Cf
set_option linter.unusedVariables false
set_option maxRecDepth 100000
variable {B:Base}{As F:List HP}{α:Type}
theorem rAppend14c_spec (q p:Option Addr) (m:DM) (l:LM) (s:Sl) (xs:List UInt8) (hn0:l.segs=[]→l.safe=l.next) (hcl:l.curN≤999999999999) (h10:(syncL m l).2.2≠0→(syncL m l).2.2=10) (hL:LInv (appendL m l xs).2.1) :
    Ct Pr F_ref14_Log_Append [.pointer q,s.v] (.tup [none,none]) [.int .i64,.int .i64] [RLogObj q p l,RefDev p m] (RAr U8 s xs)
    (fun t Bs=>t.1=(appendL m l xs).2.2.1∧t.2.1=(appendL m l xs).2.2.2∧Bs=[RLogObj q p (appendL m l xs).2.1,RefDev p (appendL m l xs).1]):=by
  refine spec2 c_ref14_Log_Append fun B hr=>?_
  haveI:Fro B s U8 xs:=⟨hr⟩
  have hsx:=hr.1
  unfold ref14_Log_Append
  refine xrlog 0 fun hi b nn s0 cs hq hn hf hs=>?_
  subst hq
  have hfew:=hi.few
  have hlen0:=hf.len
  refine xnil (xget (h:=?_))
  refine xoff 3 (xif (fun hd=>?_) (fun hd=>?_))
  · have e:appendL m l xs=(m,l,0,10):=by unfold appendL;rw [if_pos hd]
    rw [e]
    refine xrlog_back (p:=p) (l:=l) b nn s0 cs hi hn ?_
    exact xuse [RLogObj (some ⟨b,0,none⟩) p l,RefDev p m] (xret ⟨rfl,rfl,rfl⟩)
  refine xif_dec (fun hlen=>?_) (fun hlen=>?_)
  · have e:appendL m l xs=(m,l,0,2):=by unfold appendL;rw [if_neg (by rw [hd];decide),if_pos (by omega)]
    rw [e]
    refine xrlog_back (p:=p) (l:=l) b nn s0 cs hi hn ?_
    exact xuse [RLogObj (some ⟨b,0,none⟩) p l,RefDev p m] (xret ⟨rfl,rfl,rfl⟩)
  have hlen':¬ xs.length>1024:=by omega
  -- what the last segment says
  have hcase:(cs=[]∧l.segs=[]∧l.full=false∧l.curN=l.n)∨(∃ sg c,cs≠[]∧l.segs.getLast? = some sg∧cs[cs.length - 1]? = some c∧c.1=sg.n∧c.2.1=sg.size∧l.full=decide (sg.size≥1024)∧l.curN=sg.n):=by
    cases hc:l.segs.getLast? with
    | none=>
      have e:=List.getLast?_eq_none_iff.1 hc
      refine .inl ⟨List.eq_nil_of_length_eq_zero (by rw [hlen0,e];rfl),e,?_,?_⟩
      · unfold LM.full LM.cur;rw [hc]
      · unfold LM.curN LM.cur;rw [hc]
    | some sg=>
      obtain ⟨c,g1,g2,g3,g4,g5⟩:=rf_last hf hc
      refine .inr ⟨sg,c,fun e=>?_,rfl,g1,g2,g3,?_,?_⟩
      · rw [e] at g1;simp at g1
      · unfold LM.full LM.cur;rw [hc]
      · unfold LM.curN LM.cur;rw [hc]
  have hcurN:1≤l.curN∧l.curN≤2000000000000:=by
    rcases hcase with ⟨_,_,_,e⟩ | ⟨sg,c,_,hc,_,_,_,_,e⟩
    · rw [e];exact hi.n
    · rw [e];exact (hi.segs sg (List.mem_of_getLast? hc)).1
  refine xuse [Blk b (rlogCells p nn l.lo l.safe s0),Ar RSG s0 cs,Each RSegR cs l.segs,RefDev p m] ?_
  refine xnil (xget (h:=xnil (xget (h:=?_))))
  refine xjoin2 (fun(x:Int) (y:Bool) As'=>x=(if l.full then l.curN+1 else l.curN)∧y=decide (l.segs=[]∨l.full=true)∧As'=[Blk b (rlogCells p nn l.lo l.safe s0),Ar RSG s0 cs,Each RSegR cs l.segs,RefDev p m]) (fun K hK=>?_) ?_
  · rcases hcase with ⟨e,e2,e3,e4⟩ | ⟨sg,c,e,hc,hc1,g1,g2,e3,e4⟩
    · have h0:s0.n=0:=by rw [hs,e];rfl
      refine xiff (by rw [h0];rfl) (hK _ _ _ ⟨?_,?_,rfl⟩)
      · rw [e3,e4,hn e2];rfl
      · rw [h0];simp [e2]
    · have hpos:0<cs.length:=List.length_pos_iff.2 e
      have hne:l.segs≠[]:=by rintro e;rw [e] at hc;simp at hc
      have h0:((s0.n:Int) == 0)=false:=by simp;omega
      refine xift (by rw [h0];rfl) (xdraw (xnil (xget (h:=xnil (xget (h:=?_))))))
      rw [wrap_id _ (by omega) (by omega),show (s0.n:Int) - 1=((cs.length - 1:Nat):Int) by omega]
      refine xidxn (E:=RSG) (xs:=cs) (s:=s0) (h1:=by omega) (h:=fun _ _=>?_)
      refine xgetE (E:=RSG) (xs:=cs) hc1 (h:=?_)
      refine xgetEj (E:=RSG) (xs:=cs) hc1 (h:=?_)
      refine xgetEj (E:=RSG) (xs:=cs) hc1 (h:=?_)
      refine xnew fun b2=>?_
      iterate 3 (refine xset (h:=?_))
      refine xget (h:=xget (h:=xjoin (xif_dec (fun h1=>xget (h:=?_)) (fun h1=>?_))))
      · rw [g1,wrap_id _ (by omega) (by omega)]
        have hfu:l.full=true:=by rw [e3];simpa [g2] using h1
        refine xuse [Blk b (rlogCells p nn l.lo l.safe s0),Ar RSG s0 cs,Each RSegR cs l.segs,RefDev p m] (hK _ _ _ ⟨?_,?_,rfl⟩)
        · rw [hfu,e4];rfl
        · simp [hfu]
      · have hfu:l.full=false:=by rw [e3];simpa [g2] using h1
        refine xuse [Blk b (rlogCells p nn l.lo l.safe s0),Ar RSG s0 cs,Each RSegR cs l.segs,RefDev p m] (hK _ _ _ ⟨?_,?_,rfl⟩)
        · rw [hfu,e4,g1];rfl
        · rw [h0];simp [hfu,hne]
  rintro (n5:Int) (more:Bool) _ ⟨hn5,hmore,rfl⟩
  refine xcl (rNext_raw b p nn l s0 cs hs hf hi) rdb ?_
  rintro ⟨t,_⟩ _ ⟨ht,rfl⟩
  simp only at ht;subst ht
  refine app2 (ca1 ?_)
  have hcond:((decide (l.next≥1099511627776))||(decide (n5>999999999999)))=decide (l.next≥1099511627776∨(l.full=true∧l.curN=lastN)):=by
    rw [Bool.eq_iff_iff]
    simp only [Bool.or_eq_true,decide_eq_true_eq]
    rw [hn5]
    have hl:lastN=999999999999:=rfl
    cases l.full
    · rw [if_neg (by decide)];simp;omega
    · rw [if_pos rfl];simp;omega
  simp only
  rw [hcond]
  refine xif_dec (fun h1=>?_) (fun h1=>?_)
  · have e:appendL m l xs=(m,l,0,12):=by unfold appendL;rw [if_neg (by rw [hd];decide),if_neg hlen',if_pos h1]
    rw [e]
    refine xrlog_back (p:=p) (l:=l) b nn s0 cs hi hn ?_
    exact xuse [RLogObj (some ⟨b,0,none⟩) p l,RefDev p m] (xret ⟨rfl,rfl,rfl⟩)
  have heq:appendL m l xs=(let y:=if l.full then syncL m l else (m,l,0)
      if y.2.2≠0 then (y.1,y.2.1,0,y.2.2)
      else
        let n:=if l.full then l.curN+1 else l.curN
        let a:=appendM y.1 (fN n) (frameN xs)
        if a.2≠0 then (a.1,y.2.1,0,a.2)
        else
          let ss:=if l.segs=[]∨l.full=true then l.segs++[⟨n,l.next,0,[]⟩] else l.segs
          (a.1,{ y.2.1 with segs:=addL ss xs },l.next,0)):=by
    unfold appendL;rw [if_neg (by rw [hd];decide),if_neg hlen',if_neg h1]
  refine xjoin1 (fun(c:Bool) As'=>c=l.full∧As'=[Blk b (rlogCells p nn l.lo l.safe s0),Ar RSG s0 cs,Each RSegR cs l.segs,RefDev p m]) (fun K hK=>?_) ?_
  · refine xif (fun h2=>xnil (xget (h:=?_))) (fun h2=>?_)
    · refine xuse [Blk b (rlogCells p nn l.lo l.safe s0),Ar RSG s0 cs,Each RSegR cs l.segs,RefDev p m] (hK _ _ ⟨?_,rfl⟩)
      rcases hcase with ⟨e,e2,e3,e4⟩ | ⟨sg,c,e,hc,hc1,g1,g2,e3,e4⟩
      · rw [e3,hs,e];rfl
      · have hpos:0<cs.length:=List.length_pos_iff.2 e
        have hne:l.segs≠[]:=by rintro e;rw [e] at hc;simp at hc
        rw [hmore] at h2
        have:l.full=true:=by simpa [hne] using h2
        rw [this];simp;omega
    · refine xuse [Blk b (rlogCells p nn l.lo l.safe s0),Ar RSG s0 cs,Each RSegR cs l.segs,RefDev p m] (hK _ _ ⟨?_,rfl⟩)
      rw [hmore] at h2
      simp at h2
      exact h2.2.symm
  rintro c _ ⟨rfl,rfl⟩
  -- Sync, where the segment is full
  refine xjoin1 (fun(x:Bool) As'=>∃ (m1:DM) (l1:LM) (e:Int),(if l.full then syncL m l else (m,l,0))=(m1,l1,e)∧x=decide (e≠0)∧l1.segs=l.segs∧l1.n=l.n∧l1.first=l.first∧As'=[RLogObj (some ⟨b,0,none⟩) p l1,RefDev p m1]) (fun K hK=>?_) ?_
  · refine xif (fun h2=>?_) (fun h2=>?_)
    · refine xrlog_back (p:=p) (l:=l) b nn s0 cs hi hn ?_
      refine xcl (rSync14_spec (some ⟨b,0,none⟩) p m l hn0) rdb ?_
      rintro ⟨t,_⟩ _ ⟨ht,rfl⟩
      simp only at ht;subst ht
      obtain ⟨k1,k2,k3⟩:=syncL_log m l
      refine app2 (ca1 (xuse [RLogObj (some ⟨b,0,none⟩) p (syncL m l).2.1,RefDev p (syncL m l).1] (hK _ _ ⟨_,_,(syncL m l).2.2,by rw [if_pos h2],?_,k1,k2,k3,rfl⟩)))
      by_cases h3:(syncL m l).2.2=0
      · simp [h3]
      · simp [h3]
    · refine xrlog_back (p:=p) (l:=l) b nn s0 cs hi hn ?_
      refine xuse [RLogObj (some ⟨b,0,none⟩) p l,RefDev p m] (hK _ _ ⟨m,l,0,by rw [if_neg (by rw [h2];decide)],by simp,rfl,rfl,rfl,rfl⟩)
  rintro c As2 ⟨m1,l1,e,hy,rfl,hs1,hn1,hf1,rfl⟩
  rw [hy,←hn5] at heq
  refine xif_dec (fun h2=>?_) (fun h2=>?_)
  · simp only at heq
    rw [if_pos h2] at heq
    have he10:e=10:=by
      cases hfu:l.full with
      | true=>rw [hfu,if_pos rfl] at hy;rw [hy] at h10;exact h10 h2
      | false=>rw [hfu,if_neg (by decide)] at hy;cases hy;exact absurd rfl h2
    rw [heq]
    exact xret ⟨rfl,he10.symm,rfl⟩
  have h2':e=0:=by omega
  subst h2'
  simp only [ne_eq,not_true_eq_false,if_false] at heq
  have hn5b:1≤n5∧n5≤2000000000001:=by
    obtain ⟨c1,c2⟩:=hcurN
    rw [hn5]
    cases l.full
    · rw [if_neg (by decide)];omega
    · rw [if_pos rfl];omega
  refine xcl (pre:=[]) (rPut13_spec s xs (by omega)) rdb ?_
  rintro ⟨sb,t1,_⟩ _ ⟨ht1,rfl⟩
  simp only at ht1;subst ht1
  refine app1 (ca2 (xdraw (xnil ?_)))
  refine xuse [RLogObj (some ⟨b,0,none⟩) p l1,RefDev p m1,Ar U8 sb (frameN xs)] ?_
  refine xrlog 0 fun hi1 b' nn1 s1 cs1 hq hnn1 hfl1 hsl1=>?_
  obtain rfl:b=b':=by cases hq;rfl
  have hfew1:=hi1.few
  have hcl1:=hfl1.len
  refine xget (h:=?_)
  refine xname (by omega) (by omega) (xchk (h:=?_))
  refine xcl (rAppend_spec p m1 (fN n5) sb (frameN xs)) rdb ?_
  rintro ⟨t,_⟩ _ ⟨ht,rfl⟩
  simp only at ht;subst ht
  refine app1 (ca1 (xif (fun h2=>?_) (fun h2=>?_)))
  · have h2:¬ (appendM m1 (fN n5) (frameN xs)).2=0:=by simpa using h2
    rw [if_pos h2] at heq
    rw [heq]
    refine xrlog_back (p:=p) (l:=l1) b nn1 s1 cs1 hi1 hnn1 ?_
    exact xuse [RLogObj (some ⟨b,0,none⟩) p l1,RefDev p (appendM m1 (fN n5) (frameN xs)).1] (xret ⟨rfl,rfl,rfl⟩)
  have h2:(appendM m1 (fN n5) (frameN xs)).2=0:=by simpa using h2
  rw [if_neg (by rw [h2];simp)] at heq
  generalize (appendM m1 (fN n5) (frameN xs)).1=m2 at *
  have hnx:=next_same hs1 hf1
  refine xcl (rNext_raw b p nn1 l1 s1 cs1 hsl1 hfl1 hi1) rdb ?_
  rintro ⟨t,_⟩ _ ⟨ht,rfl⟩
  simp only at ht;subst ht
  rw [hnx]
  refine app2 (ca1 ?_)
  refine xlen sb fun hsb _=>?_
  replace hsb:(frameN xs).length=sb.n:=hsb
  have hfl:=frame_len xs
  refine xjoin0 (fun As'=>∃ (s2:Sl) (cs2:List CR) (ss:List Sg),ss=(if l.segs=[]∨l.full=true then l.segs++[⟨n5,l.next,0,[]⟩] else l.segs)∧As'=[Blk b (rlogCells p nn1 l1.lo l1.safe s2),Ar RSG s2 cs2,Each RSegR cs2 ss,RefDev p m2,Ar U8 sb (frameN xs)]) (fun K hK=>?_) ?_
  · rw [hmore]
    refine xif_dec (fun h3=>?_) (fun h3=>?_)
    · refine xnil (xget (h:=xnew fun b1=>?_))
      refine xapp1 (E:=RSG) ((n5,(0:Int),⟨none,0,0⟩):CR) (hb:=by omega) (h:=fun s2=>xnil (xset (h:=?_)))
      refine xnone SL ?_
      refine xadd (A:=Each (Ar U8) [] []) trivial ?_
      refine xfold [Each RSegR cs1 l1.segs,Ar SL ⟨none,0,0⟩ [],Each (Ar U8) [] []] (Each RSegR (cs1++[(n5,(0:Int),⟨none,0,0⟩)]) (l1.segs++[⟨n5,l.next,0,[]⟩])) (fun g hg=>each_snoc (star_cons (l:=[Ar SL ⟨none,0,0⟩ [],Each (Ar U8) [] []]) (fun h hh=>star_in ⟨rfl,rfl,[],hh⟩) hg)) ?_
      refine xuse [Blk b (rlogCells p nn1 l1.lo l1.safe s2),Ar RSG s2 (cs1++[(n5,(0:Int),⟨none,0,0⟩)]),Each RSegR (cs1++[(n5,(0:Int),⟨none,0,0⟩)]) (l1.segs++[⟨n5,l.next,0,[]⟩]),RefDev p m2,Ar U8 sb (frameN xs)] (hK _ ⟨s2,_,_,?_,rfl⟩)
      rw [if_pos h3,hs1]
    · refine xuse [Blk b (rlogCells p nn1 l1.lo l1.safe s1),Ar RSG s1 cs1,Each RSegR cs1 l1.segs,RefDev p m2,Ar U8 sb (frameN xs)] (hK _ ⟨s1,cs1,l1.segs,by rw [if_neg h3,hs1],rfl⟩)
  rintro As2 ⟨s2,cs2,ss,hss,rfl⟩
  rw [←hss] at heq
  have hssn:ss≠[]:=by
    rw [hss]
    split
    · simp
    · rename_i h3
      exact fun e=>h3 (.inl e)
  have hssl:ss.length≤65:=by
    rw [hss]
    split
    · rw [List.length_append,List.length_singleton];omega
    · omega
  refine xfact 2 (P1:=Each RSegR cs2 ss) (fun g hg=>rf_of hg) fun hf2=>?_
  refine xlen s2 fun hs2 _=>?_
  replace hs2:cs2.length=s2.n:=hs2
  have hcl2:=hf2.len
  have hL2:=hL
  rw [heq] at hL2
  obtain ⟨sg,hsg⟩:∃ sg,ss.getLast? = some sg:=⟨_,List.getLast?_eq_some_getLast hssn⟩
  have hne2:cs2≠[]:=fun e=>hssn (List.eq_nil_of_length_eq_zero (by rw [←hcl2,e];rfl))
  have hpos2:0<cs2.length:=List.length_pos_iff.2 hne2
  obtain ⟨c,g1,g2,g3,g4,g5⟩:=rf_last hf2 hsg
  have hsgk:ss[cs2.length - 1]? = some sg:=by rw [hcl2];exact getLast_get hsg
  have hlt:=(List.getElem?_eq_some_iff.1 g1).1
  have hbnd:(0≤sg.size∧sg.size≤16777216)∧(sg.ps.length:Int)≤sg.size:=by
    have hm:=List.mem_of_getLast? hsg
    rw [hss] at hm
    have inl:sg∈l.segs→(0≤sg.size∧sg.size≤16777216)∧(sg.ps.length:Int)≤sg.size:=fun hm=>⟨(hi.segs sg hm).2.2.1,(hi.segs sg hm).2.2.2.1⟩
    split at hm
    · rcases List.mem_append.1 hm with hm | hm
      · exact inl hm
      · obtain rfl:=List.mem_singleton.1 hm
        simp
    · exact inl hm
  have hlo:({ l1 with segs:=addL ss xs }:LM).lo=l1.lo:=by
    have e1:l1.lo=l.lo:=by unfold LM.lo;rw [hs1,hf1]
    rw [e1]
    obtain ⟨a,r,har⟩:∃ a r,ss=a::r:=by
      cases ss with
      | nil=>exact absurd rfl hssn
      | cons a r=>exact ⟨a,r,rfl⟩
    obtain ⟨a',r',h1',h2'⟩:=addL_lo hsg xs har
    have h3:({ l1 with segs:=addL ss xs }:LM).lo=a.first:=by
      show (match addL ss xs with | []=>l1.first | s::_=>s.first)=_
      rw [h1'];exact h2'
    rw [h3]
    rw [har] at hss
    cases hsl:l.segs with
    | nil=>
      rw [hsl,if_pos (.inl rfl)] at hss
      have:a=⟨n5,l.next,0,[]⟩:=by simpa using (List.cons.inj hss).1
      rw [this]
      unfold LM.next LM.cur LM.lo
      rw [hsl];rfl
    | cons y z=>
      have:a=y:=by
        rw [hsl] at hss
        split at hss
        · exact (List.cons.inj hss).1
        · exact (List.cons.inj hss).1
      rw [this]
      unfold LM.lo
      rw [hsl]
  have hidx:IntKind.i64.wrap ((s2.n:Int) - 1)=((cs2.length - 1:Nat):Int):=by rw [wrap_id _ (by omega) (by omega)];omega
  refine xnil (xget (h:=xdraw (xnil (xget (h:=xnil (xget (h:=?_)))))))
  rw [hidx]
  refine xidxn (E:=RSG) (xs:=cs2) (s:=s2) (h1:=hlt) (h:=fun _ _=>?_)
  refine xgetEj (E:=RSG) (xs:=cs2) g1 (h:=?_)
  refine xidxn (E:=RSG) (xs:=cs2) (s:=s2) (h1:=hlt) (h:=fun _ _=>?_)
  rw [g3,wrap_id _ (by omega) (by omega)]
  refine xsetEj (E:=RSG) (xs:=cs2) ((c.1,sg.size+(sb.n:Int),c.2.2):CR) g1 rfl (by decide) rfl ?_
  have g1':(cs2.set (cs2.length - 1) ((c.1,sg.size+(sb.n:Int),c.2.2):CR))[cs2.length - 1]? = some ((c.1,sg.size+(sb.n:Int),c.2.2):CR):=by
    rw [List.getElem?_set_self hlt]
  have hlt':cs2.length - 1<(cs2.set (cs2.length - 1) ((c.1,sg.size+(sb.n:Int),c.2.2):CR)).length:=by rw [List.length_set];exact hlt
  generalize hk:cs2.length - 1=k at *
  refine xdraw (xnil (xget (h:=xnil (xget (h:=?_)))))
  refine xidxn (E:=RSG) (xs:=cs2.set k ((c.1,sg.size+(sb.n:Int),c.2.2):CR)) (s:=s2) (h1:=hlt') (h:=fun _ _=>?_)
  refine xgetEj (E:=RSG) (xs:=cs2.set k ((c.1,sg.size+(sb.n:Int),c.2.2):CR)) g1' (h:=?_)
  refine xcl (pre:=[]) (CopyBytes_spec s xs (by omega)) rdb ?_
  rintro ⟨s4,_⟩ _ rfl
  refine app1 (ca1 (xchkEj (E:=RSG) (xs:=cs2.set k ((c.1,sg.size+(sb.n:Int),c.2.2):CR)) g1' (h:=xchk (h:=xchk (h:=xnew fun b1=>?_)))))
  refine xuse [Each RSegR cs2 ss,Blk b1 [s4.v],Ar U8 s4 xs,Ar RSG s2 (cs2.set k ((c.1,sg.size+(sb.n:Int),c.2.2):CR)),Blk b (rlogCells p nn1 l1.lo l1.safe s2),RefDev p m2] ?_
  refine xrseg (k:=k) 0 g1 hsgk fun rs=>?_
  refine xfact 1 (P1:=Each (Ar U8) rs sg.ps) (fun g hg=>hg.length) fun hrl=>?_
  refine xapp1 (E:=SL) s4 (hb:=by omega) (h:=fun s5=>xchk (h:=?_))
  refine xidxn (E:=RSG) (xs:=cs2.set k ((c.1,sg.size+(sb.n:Int),c.2.2):CR)) (s:=s2) (h1:=hlt') (h:=fun _ _=>?_)
  refine xsetEj (E:=RSG) (xs:=cs2.set k ((c.1,sg.size+(sb.n:Int),c.2.2):CR)) ((c.1,sg.size+(sb.n:Int),s5):CR) g1' rfl (by decide) rfl ?_
  rw [List.set_set]
  have hadd:=addL_set hsg xs
  have hkk:ss.length - 1=k:=by rw [←hcl2];exact hk
  rw [hkk] at hadd
  rw [heq]
  refine xfold [Ar SL s5 (rs++[s4]),Each (Ar U8) rs sg.ps,Ar U8 s4 xs,Each RSegR (cs2.eraseIdx k) (ss.eraseIdx k)] (Each RSegR (cs2.set k ((c.1,sg.size+(sb.n:Int),s5):CR)) (addL ss xs)) (fun g hg=>?_) ?_
  · rw [hadd]
    refine each_put hlt (by have:=(List.getElem?_eq_some_iff.1 hsgk).1;exact this) ?_
    have h1:star [Ar SL s5 (rs++[s4]),Each (Ar U8) (rs++[s4]) (sg.ps++[xs]),Each RSegR (cs2.eraseIdx k) (ss.eraseIdx k)] g:=by
      refine star_cons (l:=[Each (Ar U8) rs sg.ps,Ar U8 s4 xs,Each RSegR (cs2.eraseIdx k) (ss.eraseIdx k)]) (fun h hh=>?_) hg
      obtain ⟨a,e,pa,pb,d,sa,sb'⟩:=(star_append [Each (Ar U8) rs sg.ps,Ar U8 s4 xs] [Each RSegR (cs2.eraseIdx k) (ss.eraseIdx k)]).1 hh
      exact ⟨a,e,each_snoc pa,pb,d,sa,sb'⟩
    obtain ⟨a,e,pa,pb,d,sa,sb'⟩:=(star_append [Ar SL s5 (rs++[s4]),Each (Ar U8) (rs++[s4]) (sg.ps++[xs])] [Each RSegR (cs2.eraseIdx k) (ss.eraseIdx k)]).1 h1
    exact ⟨a,e,⟨g2,by simp only;rw [hsb],_,pa⟩,pb,d,sa,sb'⟩
  refine xfold [Blk b (rlogCells p nn1 l1.lo l1.safe s2),Ar RSG s2 (cs2.set k ((c.1,sg.size+(sb.n:Int),s5):CR)),Each RSegR (cs2.set k ((c.1,sg.size+(sb.n:Int),s5):CR)) (addL ss xs)] (RLogObj (some ⟨b,0,none⟩) p { l1 with segs:=addL ss xs }) (fun g hg=>⟨hL2,b,nn1,s2,_,rfl,fun e=>?_,by rw [hlo];exact hg⟩) ?_
  · rw [hadd] at e
    exact absurd e (by intro e;exact hssn (List.eq_nil_of_length_eq_zero (by have:=congrArg List.length e;simpa using this)))
  exact xuse [RLogObj (some ⟨b,0,none⟩) p { l1 with segs:=addL ss xs },RefDev p m2] (xret ⟨rfl,rfl,rfl⟩)
theorem rlayc_raw (b:Nat) (p:Option Addr) (m:DM) (nn lo safe:Int) (s:Sl) (sg:Sg) (hd:m.down=false) (hn:0≤sg.n∧sg.n≤4398046511104) (hf:0≤sg.first∧sg.first≤4398046511104):Ct Pr F_ref14_Log_lay [.pointer (some ⟨b,0,none⟩),.int .i64 sg.n,.int .i64 sg.first] .one [.int .i64] [Blk b (rlogCells p nn lo safe s),RefDev p m] emp
    (fun t Bs=>t.1=(layM m sg).2∧Bs=[Blk b (rlogCells p nn lo safe s),RefDev p (layM m sg).1]):=by
  refine spec1 c_ref14_Log_lay fun B _=>?_
  unfold ref14_Log_lay
  rw [wrap_pos hn.1 hn.2,wrap_pos hf.1 hf.2]
  refine xcl (pre:=[]) (rPut02_spec ⟨none,0,0⟩ [] sg.n.toNat (by omega) (by decide)) (rds_of fun _ _ _ _ _=>⟨rfl,rfl,fun h=>absurd h (Nat.lt_irrefl 0)⟩) ?_
  rintro ⟨s4,e,_⟩ _ ⟨_,rfl⟩
  have hb8:=be8_len sg.n.toNat
  have hb9:=be8_len sg.first.toNat
  refine app1 (ca2 ?_)
  refine xcl (pre:=[]) (rPut02_spec s4 ([]++be8 sg.n.toNat) sg.first.toNat (by omega) (by rw [List.nil_append,hb8];decide)) rdb ?_
  rintro ⟨s5,e,_⟩ _ ⟨_,rfl⟩
  refine app1 (ca2 ?_)
  rw [List.nil_append]
  refine xcl (pre:=[]) (rPut13_spec s5 (be8 sg.n.toNat++be8 sg.first.toNat) (by rw [List.length_append,hb8,hb9];decide)) rdb ?_
  rintro ⟨s6,e,_⟩ _ ⟨_,rfl⟩
  refine app1 (ca2 (xnil (xget (h:=?_))))
  simp only
  unfold layM
  dsimp only
  refine xcl (rFind_spec p m newN) rdb ?_
  rintro ⟨t,_⟩ _ ⟨ht,rfl⟩
  simp only at ht;subst ht
  refine app1 (ca1 ?_)
  refine xuse [Blk b (rlogCells p nn lo safe s),RefDev p m,Ar U8 s6 (frameN (be8 sg.n.toNat++be8 sg.first.toNat))] ?_
  refine xjoin1 (fun(c:Bool) As'=>c=decide ((dropM m newN).2≠0)∧As'=[Blk b (rlogCells p nn lo safe s),RefDev p (dropM m newN).1,Ar U8 s6 (frameN (be8 sg.n.toNat++be8 sg.first.toNat))]) (fun K hK=>?_) ?_
  · cases ht:thereL m.fs newN.toList with
    | true=>
      rw [fIdx_yes ht,drop_there hd ht] at *
      refine xift (by simp) (xnil (xget (h:=?_)))
      refine xcl (rRemove_spec p m newN) rdb ?_
      rintro ⟨t,_⟩ _ ⟨ht,rfl⟩
      simp only at ht;subst ht
      refine app1 (ca1 (xuse [Blk b (rlogCells p nn lo safe s),RefDev p (removeM m newN).1,Ar U8 s6 (frameN (be8 sg.n.toNat++be8 sg.first.toNat))] (hK _ _ ⟨?_,rfl⟩)))
      rw [Bool.eq_iff_iff];simp
    | false=>
      rw [fIdx_no ht,drop_none hd ht] at *
      exact xiff (by decide) (hK _ _ ⟨by simp,rfl⟩)
  rintro c _ ⟨rfl,rfl⟩
  refine xif_dec (fun h=>?_) (fun h=>?_)
  · rw [if_pos h]
    exact xuse [Blk b (rlogCells p nn lo safe s),RefDev p (dropM m newN).1] (xret ⟨(drop_code h).symm,rfl⟩)
  rw [if_neg h]
  refine xnil (xget (h:=?_))
  refine xcl (rAppend_spec p (dropM m newN).1 newN s6 (frameN (be8 sg.n.toNat++be8 sg.first.toNat))) rdb ?_
  rintro ⟨t,_⟩ _ ⟨ht,rfl⟩
  simp only at ht;subst ht
  refine app1 (ca1 ?_)
  generalize hA:appendM (dropM m newN).1 newN (frameN (be8 sg.n.toNat++be8 sg.first.toNat))=A
  obtain ⟨m1,e1⟩:=A
  dsimp only
  refine xuse [Blk b (rlogCells p nn lo safe s),RefDev p m1] ?_
  by_cases h1:e1=0
  · subst h1
    rw [if_neg (by simp)]
    refine xjoin (xift rfl (xnil (xget (h:=?_))))
    refine xcl (rSync_spec p m1 newN) rdb ?_
    rintro ⟨t,_⟩ _ ⟨ht,rfl⟩
    simp only at ht;subst ht
    refine app1 (ca1 ?_)
    generalize hS:syncM m1 newN=S
    obtain ⟨m2,e2⟩:=S
    dsimp only
    refine xuse [Blk b (rlogCells p nn lo safe s),RefDev p m2] ?_
    by_cases h2:e2=0
    · subst h2
      rw [if_neg (by simp)]
      refine xjoin (xift rfl (xnil (xget (h:=?_))))
      refine xcl (rRename_spec p m2 newN headN) rdb ?_
      rintro ⟨t,_⟩ _ ⟨ht,rfl⟩
      simp only at ht;subst ht
      refine app1 (ca1 ?_)
      exact xuse [Blk b (rlogCells p nn lo safe s),RefDev p (renameM m2 newN headN).1] (xret ⟨rfl,rfl⟩)
    · rw [if_pos h2]
      refine xjoin (xiff (by simpa using h2) ?_)
      exact xret ⟨rfl,rfl⟩
  · rw [if_pos h1]
    refine xjoin (xiff (by simpa using h1) (xjoin (xiff (by simpa using h1) ?_)))
    exact xret ⟨rfl,rfl⟩
theorem rTrim14c_spec (q p:Option Addr) (m:DM) (l:LM) (to keep:Int) (hkeep:i64 keep) (h10:∀ sg,l.segs[dropsL l to keep]? = some sg→(goneM (l.segs.take (dropsL l to keep)) (layM m sg).1).2≠0→(goneM (l.segs.take (dropsL l to keep)) (layM m sg).1).2=10):Ct Pr F_ref14_Log_Trim [.pointer q,.int .i64 to,.int .i64 keep] .one [.int .i64] [RLogObj q p l,RefDev p m] emp
    (fun t Bs=>t.1=(trimL m l to keep).2.2∧Bs=[RLogObj q p (trimL m l to keep).2.1,RefDev p (trimL m l to keep).1]):=by
  refine spec1 c_ref14_Log_Trim fun B _=>?_
  unfold ref14_Log_Trim
  refine xfact 0 (P1:=RLogObj q p l) (fun g hg=>hg.1) fun hi0=>?_
  have hinv:=trim_inv hi0 m to keep
  unfold trimL at hinv ⊢
  dsimp only at hinv ⊢
  refine xrlog 0 fun hi b nn s cs hq hn hf hs=>?_
  subst hq
  have back:∀ {As:List HP}(m':DM) {G F':List HP} [q:Split [Blk b (rlogCells p nn l.lo l.safe s),Ar RSG s cs,Each RSegR cs l.segs] As G] [q2:Find (RefDev p m') G F'] {x:Int},Ent B As (Ret B (ss:=[.int .i64]) (fun t Bs=>t.1=x∧Bs=[RLogObj (some ⟨b,0,none⟩) p l,RefDev p m']) (x,())):=by
    intro As m' G F' q q2 x
    refine xrlog_back (p:=p) (l:=l) b nn s cs hi hn ?_
    exact xuse [RLogObj (some ⟨b,0,none⟩) p l,RefDev p m'] (xret ⟨rfl,rfl⟩)
  refine xnil (xget (h:=?_))
  refine xoff 3 (xif (fun hd=>?_) (fun hd=>?_))
  · rw [if_pos hd]
    exact back m
  rw [hd,if_neg (by decide)] at hinv ⊢
  have hfew:=hi.few
  have hlen:=hf.len
  obtain ⟨k1,k2⟩:=hkeep
  have e2:((max keep 1).toNat:Int)=max keep 1:=by omega
  have e3:1≤(max keep 1).toNat:=by omega
  generalize hME:(max keep 1).toNat=M at e2 e3
  generalize hL:l.segs.take (l.segs.length - M)=L
  have hdr:dropsL l to keep=(L.takeWhile fun s=>decide (s.next≤min to l.safe)).length:=by unfold dropsL;rw [hME,hL]
  have hget:∀ k:Nat,L[k]? = if k<cs.length - M then l.segs[k]? else none:=fun k=>by
    rw [←hL,List.getElem?_take,hlen]
  have hLl:L.length≤cs.length - M:=by rw [←hL,List.length_take];omega
  have hdl:dropsL l to keep≤cs.length - M:=by rw [hdr];exact Nat.le_trans (List.takeWhile_sublist _).length_le hLl
  refine xuse [Blk b (rlogCells p nn l.lo l.safe s),Ar RSG s cs,Each RSegR cs l.segs,RefDev p m] ?_
  refine xnil (xget (h:=?_))
  refine xloop2 (fun n (first:Int) (x:Int) As'=>∃ k:Nat,x=(k:Int)∧n=cs.length - k∧k≤cs.length∧first=l.lo+(cumL (l.segs.take k):Int)∧k≤dropsL l to keep∧As'=[Blk b (rlogCells p nn l.lo l.safe s),Ar RSG s cs,Each RSegR cs l.segs,RefDev p m]) cs.length ⟨0,rfl,rfl,by omega,by simp [cumL],by omega,rfl⟩ ?_
  rintro n _ _ _ K ⟨k,rfl,rfl,hk,rfl,hkd,rfl⟩ hK
  have hcum:=cum_lt hi (k:=k) (by omega)
  refine xdraw (xjoin1 (fun(c:Bool) As'=>(c=true→k+1≤dropsL l to keep∧k+1≤cs.length)∧(c=false→dropsL l to keep=k)∧As'=[Blk b (rlogCells p nn l.lo l.safe s),Ar RSG s cs,Each RSegR cs l.segs,RefDev p m]) (fun K1 hK1=>?_) ?_)
  · have no:¬ k<cs.length - M→Ent B [Blk b (rlogCells p nn l.lo l.safe s),Ar RSG s cs,Each RSegR cs l.segs,RefDev p m] (K1 false):=fun h=>by
      refine hK1 _ _ ⟨fun e=>(by cases e),fun _=>?_,rfl⟩
      rw [hdr] at hkd ⊢
      exact tw_stop hkd fun y hy=>by rw [hget,if_neg h] at hy;cases hy
    refine xnil (xget (h:=?_))
    rw [wrap_succ k (by omega)]
    refine xif_dec (fun h=>?_) (fun h=>xiff rfl (xiff rfl (no (by omega))))
    refine xnil (xget (h:=?_))
    rw [wrap_id ((s.n:Int) - k) (by omega) (by omega)]
    refine xif_dec (fun h'=>?_) (fun h'=>xiff rfl (no (by omega)))
    have hlt:k<cs.length - M:=by omega
    obtain ⟨c,hc⟩:∃ c,cs[k]? = some c:=⟨_,List.getElem?_eq_getElem (by omega)⟩
    obtain ⟨sg,hsg⟩:∃ sg,l.segs[k]? = some sg:=⟨_,List.getElem?_eq_getElem (by omega)⟩
    obtain ⟨g1,g2,g3,g4⟩:=hf.each k c sg hc hsg
    obtain ⟨b1,b2,b3,b4,b5⟩:=hi.segs sg (List.mem_of_getElem? hsg)
    have hLk:L[k]? = some sg:=by rw [hget,if_pos hlt,hsg]
    have hfst:=at_first hi k sg hsg
    have hnx:IntKind.i64.wrap (l.lo+(cumL (l.segs.take k):Int)+(c.2.2.n:Int))=sg.next:=by
      rw [wrap_id _ (by omega) (by omega),←hfst,g3];rfl
    have fin:∀ x:Bool,x=decide (sg.next≤min to l.safe)→Ent B [Blk b (rlogCells p nn l.lo l.safe s),Ar RSG s cs,Each RSegR cs l.segs,RefDev p m] (K1 x):=fun x hx=>by
      rw [hdr] at hkd hK1
      refine hK1 _ _ ⟨fun e=>⟨tw_step hkd hLk (by rw [←hx];exact e),by omega⟩,fun e=>tw_stop hkd fun y hy=>?_,rfl⟩
      rw [hLk] at hy
      obtain rfl:=Option.some.inj hy
      rw [←hx];exact e
    refine xnil (xget (h:=?_))
    refine xidxn (E:=RSG) (xs:=cs) (s:=s) (h1:=by omega) (h:=fun _ _=>?_)
    refine xgetEj (E:=RSG) (xs:=cs) hc (h:=?_)
    rw [hnx]
    refine xif_dec (fun h2=>?_) (fun h2=>?_)
    · refine xnil (xget (h:=?_))
      refine xidxn (E:=RSG) (xs:=cs) (s:=s) (h1:=by omega) (h:=fun _ _=>?_)
      refine xgetEj (E:=RSG) (xs:=cs) hc (h:=?_)
      refine xnil (xget (h:=?_))
      rw [hnx]
      refine fin _ ?_
      rw [Bool.eq_iff_iff];simp only [decide_eq_true_eq];omega
    · refine fin _ ?_
      have:¬ sg.next≤min to l.safe:=by omega
      simp [this]
  rintro c _ ⟨h1,h2,rfl⟩
  refine xif (fun h=>?_) (fun h=>?_)
  · obtain ⟨q1,q2⟩:=h1 h
    obtain ⟨c,hc⟩:∃ c,cs[k]? = some c:=⟨_,List.getElem?_eq_getElem (by omega)⟩
    obtain ⟨sg,hsg⟩:∃ sg,l.segs[k]? = some sg:=⟨_,List.getElem?_eq_getElem (by omega)⟩
    obtain ⟨g1,g2,g3,g4⟩:=hf.each k c sg hc hsg
    have hcs:=cumL_succ hsg
    have hcum2:=cum_lt hi (k:=k+1) (by omega)
    refine xnil (xget (h:=?_))
    refine xidxn (E:=RSG) (xs:=cs) (s:=s) (h1:=by omega) (h:=fun _ _=>?_)
    refine xgetEj (E:=RSG) (xs:=cs) hc (h:=?_)
    rw [wrap_succ k (by omega),wrap_id _ (by omega) (by omega)]
    exact hK (cs.length - (k+1)) _ _ _ (by omega) ⟨k+1,rfl,rfl,by omega,by omega,q1,rfl⟩
  have hD:=h2 h
  rw [hD] at hinv hdl ⊢
  clear hK h1 h2 hkd hdr hget hLl hL
  refine xif (fun h=>?_) (fun h=>?_)
  · have h':k=0:=by have:=eq_of_beq h;omega
    rw [if_pos h']
    exact back m
  have h':k≠0:=fun e=>by rw [e] at h;simp at h
  rw [if_neg h'] at hinv ⊢
  have hk2:k<l.segs.length:=by omega
  obtain ⟨sg,hsg⟩:∃ sg,l.segs[k]? = some sg:=⟨_,List.getElem?_eq_getElem hk2⟩
  obtain ⟨c,hc⟩:∃ c,cs[k]? = some c:=⟨_,List.getElem?_eq_getElem (by omega)⟩
  rw [hsg] at hinv ⊢
  simp only [Option.getD_some] at hinv ⊢
  obtain ⟨g1,g2,g3,g4⟩:=hf.each k c sg hc hsg
  obtain ⟨b1,b2,b3,b4,b5⟩:=hi.segs sg (List.mem_of_getElem? hsg)
  have hfst:=at_first hi k sg hsg
  rw [←hfst]
  refine xnil (xget (h:=?_))
  refine xidxn (E:=RSG) (xs:=cs) (s:=s) (h1:=by omega) (h:=fun _ _=>?_)
  refine xgetE (E:=RSG) (xs:=cs) hc (h:=?_)
  rw [g1]
  refine xcl (rlayc_raw b p m nn l.lo l.safe s sg hd ⟨by omega,by omega⟩ ⟨by omega,by omega⟩) rdb ?_
  rintro ⟨t,_⟩ _ ⟨ht,rfl⟩
  simp only at ht;subst ht
  refine app2 (ca1 (xif (fun h=>?_) (fun h=>?_)))
  · rw [if_pos (by simpa using h)]
    exact back (layM m sg).1
  have h5:¬ (layM m sg).2≠0:=by simpa using h
  rw [hD] at h10
  have h10':=h10 sg hsg
  clear h10
  rw [if_neg h5] at hinv ⊢
  generalize (layM m sg).1=m1 at *
  refine xlen (E:=RSG) (xs:=cs) s fun hsn0 hsc0=>?_
  have htk:(l.segs.take k).length=k:=by simp;omega
  refine xuse [Blk b (rlogCells p nn l.lo l.safe s),Ar RSG s cs,Each RSegR cs l.segs,RefDev p m1] ?_
  refine xloop1 (fun n (x:Int) As'=>∃ (j:Nat) (m2:DM),x=(j:Int)∧n=k - j∧j≤k∧goneM (l.segs.take k) m1=goneM ((l.segs.take k).drop j) m2∧As'=[Blk b (rlogCells p nn l.lo l.safe s),Ar RSG s cs,Each RSegR cs l.segs,RefDev p m2]) k ⟨0,m1,rfl,rfl,by omega,rfl,rfl⟩ ?_
  rintro n _ _ K ⟨j,m2,rfl,rfl,hj,hg,rfl⟩ hK
  refine xif_dec (fun h6=>?_) (fun h6=>?_)
  · have hjk:j<k:=by
      have h6:(j:Int)<(k:Int):=h6
      omega
    obtain ⟨sj,hsj⟩:∃ x,l.segs[j]? = some x:=⟨_,List.getElem?_eq_getElem (by omega)⟩
    obtain ⟨cj,hcj⟩:∃ x,cs[j]? = some x:=⟨_,List.getElem?_eq_getElem (by omega)⟩
    obtain ⟨q1,q2,q3,q4⟩:=hf.each j cj sj hcj hsj
    obtain ⟨r1,r2,r3,r4,r5⟩:=hi.segs sj (List.mem_of_getElem? hsj)
    have hdrop:(l.segs.take k).drop j=sj::(l.segs.take k).drop (j+1):=by
      rw [List.drop_eq_getElem_cons (by omega)]
      have:(l.segs.take k)[j]? = some sj:=by rw [List.getElem?_take_of_lt hjk];exact hsj
      rw [List.getElem?_eq_getElem (by omega)] at this
      rw [Option.some.inj this]
    rw [hdrop,goneM] at hg
    refine xdraw (xnil (xget (h:=xnil (xget (h:=?_)))))
    refine xidxn (E:=RSG) (xs:=cs) (s:=s) (h1:=by omega) (h:=fun _ _=>?_)
    refine xgetE (E:=RSG) (xs:=cs) hcj (h:=?_)
    rw [q1]
    refine xname (by omega) (by omega) (xchk (h:=?_))
    refine xcl (rRemove_spec p m2 (fN sj.n)) rdb ?_
    rintro ⟨t,_⟩ _ ⟨ht,rfl⟩
    simp only at ht;subst ht
    refine app1 (ca1 (xif (fun h7=>?_) (fun h7=>?_)))
    · have h7:(removeM m2 (fN sj.n)).2≠0:=by simpa using h7
      rw [if_pos h7] at hg
      have e10:(removeM m2 (fN sj.n)).2=10:=by rw [hg] at h10';exact h10' h7
      rw [hg,if_pos h7]
      simp only [e10]
      exact back (removeM m2 (fN sj.n)).1
    · have h7:¬ (removeM m2 (fN sj.n)).2≠0:=by simpa using h7
      rw [if_neg h7] at hg
      rw [wrap_succ j (by omega)]
      exact xuse [Blk b (rlogCells p nn l.lo l.safe s),Ar RSG s cs,Each RSegR cs l.segs,RefDev p (removeM m2 (fN sj.n)).1] (hK _ _ _ (by omega) ⟨j+1,_,rfl,rfl,by omega,hg,rfl⟩)
  · obtain rfl:j=k:=by
      have h6:¬ (j:Int)<(k:Int):=h6
      omega
    rw [List.drop_of_length_le (by omega),goneM] at hg
    rw [hg] at hinv ⊢
    simp only [ne_eq,not_true_eq_false,if_false] at hinv ⊢
    refine xnil (xget (h:=?_))
    refine xidxn (E:=RSG) (xs:=cs) (s:=s) (h1:=by omega) (h:=fun _ _=>?_)
    refine xgetE (E:=RSG) (xs:=cs) hc (h:=?_)
    refine xnil (xset (h:=xnil (xset (h:=xnil (xget (h:=?_))))))
    refine xslc (by omega) (by omega) (by omega) (by omega) ?_
    simp only [Int.toNat_natCast]
    refine xnil (xset (h:=?_))
    have hlo:({ l with segs:=l.segs.drop j }:LM).lo=sg.first:=by
      show (match l.segs.drop j with | []=>l.first | s::_=>s.first)=_
      rw [List.drop_eq_getElem_cons hk2]
      have:=List.getElem?_eq_getElem hk2
      rw [hsg] at this
      rw [←Option.some.inj this]
    refine xfold [Blk b (rlogCells p c.1 sg.first l.safe (s.cut j s.n s.c 3)),Ar RSG s cs,Each RSegR cs l.segs] (RLogObj (some ⟨b,0,none⟩) p { l with segs:=l.segs.drop j }) (fun g hg=>?_) ?_
    · refine ⟨hinv,b,c.1,s.cut j s.n s.c 3,cs.drop j,rfl,fun e=>?_,?_⟩
      · have e':l.segs.drop j=[]:=e
        have:=congrArg List.length e'
        rw [List.length_drop,List.length_nil] at this
        omega
      · rw [hlo]
        refine star_cons (l:=[Ar RSG s cs,Each RSegR cs l.segs]) (l':=[Ar RSG (s.cut j s.n s.c 3) (cs.drop j),Each RSegR (cs.drop j) (l.segs.drop j)]) (fun g hg=>?_) hg
        obtain ⟨a,e,⟨zs,hz⟩,⟨a2,e2,pe,_,d2,sa2,sb2⟩,d,sa,sb⟩:=hg
        exact ⟨a,e,⟨zs,Ars.dropc hz j (by omega)⟩,⟨a2,e2,each_drop j pe,trivial,d2,sa2,sb2⟩,d,sa,sb⟩
    exact xuse [RLogObj (some ⟨b,0,none⟩) p { l with segs:=l.segs.drop j },RefDev p m2] (xret ⟨rfl,rfl⟩)
end Go.Cx
namespace Go.Cx
open Go Go.Cf
set_option linter.unusedVariables false
set_option maxRecDepth 100000
variable {B:Base}{As F:List HP}{α:Type}
theorem SameBytes_spec (a b:Sl) (xs ys:List UInt8) (hm:xs.length≤140737488355328) :
    Ct Pr F_kit_SameBytes [a.v,b.v] .one [.bool] [] ((RAr U8 a xs).and (RAr U8 b ys)) (fun t Bs=>t.1=decide (xs=ys)∧Bs=[]):=by
  refine spec1 c_kit_SameBytes fun B hr=>?_
  have fa:Fro B a U8 xs:=⟨hr.1⟩
  have fb:Fro B b U8 ys:=⟨hr.2⟩
  have ha:=hr.1.1
  have hb:=hr.2.1
  unfold kit_SameBytes
  refine xif (fun h=>?_) (fun h=>?_)
  · refine xret ⟨?_,rfl⟩
    have:xs≠ys:=fun e=>by subst e;simp [←ha,←hb] at h
    simp [this]
  · have hl:xs.length=ys.length:=by simp at h;omega
    refine xloop1 (fun n i As=>∃ k:Nat,i=(k:Int)∧n=xs.length - k∧k≤xs.length∧xs.take k=ys.take k∧As=[]) xs.length ⟨0,rfl,rfl,by omega,rfl,rfl⟩ ?_
    rintro n _ _ K ⟨k,rfl,rfl,hk,he,rfl⟩ hK
    refine xif_dec (fun h=>?_) (fun h=>?_)
    · refine xdraw (xidxn rfl (by omega) fun x hx=>xgetE hx rfl rfl (xidxn rfl (by omega) fun y hy=>xgetE hy rfl rfl ?_))
      rw [u8_ne]
      refine xif (fun h=>?_) (fun h=>?_)
      · refine xret ⟨?_,rfl⟩
        have:xs≠ys:=fun e=>by subst e;rw [hx] at hy;simp at hy h;exact h hy
        simp [this]
      · rw [wrap_succ k (by omega)]
        refine hK (xs.length - (k+1)) _ _ (by omega) ⟨k+1,rfl,rfl,by omega,?_,rfl⟩
        rw [List.take_add_one,List.take_add_one,he,hx,hy]
        simp at h
        rw [h]
    · refine xret ⟨?_,rfl⟩
      have:k=xs.length:=by omega
      subst this
      rw [List.take_length,hl,List.take_length] at he
      simp [he]
theorem SpoilBytes_spec (l:Sl) (xs:List UInt8):Ct Pr F_kit_SpoilBytes [l.v] (.tup []) [] [Ar U8 l xs] emp (fun t Bs=>Bs=[]):=by
  refine spec0 c_kit_SpoilBytes fun B _=>?_
  unfold kit_SpoilBytes
  refine xslc0 rfl (by omega) (by omega) ?_
  rw [Int.toNat_natCast]
  refine xars 0 fun zs h1 h2=>?_
  refine xfact 0 (fun g hg=>hg.cap_le) fun hM=>?_
  refine xshift l.c (xs++zs) [] (by simp) (by simpa using h2) (xar ?_)
  refine xloop1 (fun n i As=>∃ (k:Nat) (ys:List UInt8),i=(k:Int)∧n=l.c - k∧k≤l.c∧ys.length=l.c∧As=[Ar U8 ⟨l.p,l.c,l.c⟩ ys]) l.c ⟨0,xs++zs,rfl,rfl,by omega,by simpa using h2,rfl⟩ ?_
  rintro n _ _ K ⟨k,ys,rfl,rfl,hk,hl,rfl⟩ hK
  refine xif_dec (fun h=>?_) (fun h=>?_)
  · simp only at h
    refine xidxn (h1:=by omega) (h:=fun y hy=>?_)
    refine xgetE hy (h:=?_)
    refine xidxn (h1:=by omega) (h:=fun y' _=>?_)
    refine xsetE (UInt8.ofNat (bits .xor .u8 (y.toNat:Int) 90).toNat) hy (hv:=by
      have:=bits_u8 .xor (y.toNat:Int) 90
      simp only [U8,List.set_cons_zero,List.cons.injEq,Value.int.injEq,true_and,and_true]
      rw [UInt8.toNat_ofNat'];omega) (h:=?_)
    rw [wrap_succ k (by omega)]
    exact hK (l.c - (k+1)) _ _ (by omega) ⟨k+1,_,rfl,rfl,by omega,by simpa using hl,rfl⟩
  · exact xdrop 0 (xret rfl)
theorem Arm_spec (p:Option Addr) (m:DM) (n:Int) (hn:i64 n):Ct Pr F_device_power_Arm [.pointer p,.int .i64 n] (.tup []) [] [DevObj p m] emp (fun t Bs=>Bs=[DevObj p (armM m n)]):=by
  refine spec0 c_device_power_Arm fun B _=>?_
  unfold device_power_Arm
  refine xdev 0 fun hi b s cs hp sf hsn=>?_
  subst hp
  exact xnil (xset (h:=xnil (xset (h:=xdev_put 0 0 0 b s cs (armM m n) (arm_inv hi hn) (fun _ h=>h) (xret rfl)))))
theorem Wake_spec (p:Option Addr) (m:DM) (keep:Int):Ct Pr F_device_Device_Wake [.pointer p,.int .i64 keep] (.tup []) [] [DevObj p m] emp (fun t Bs=>Bs=[DevObj p (wakeM m keep)]):=by
  refine spec0 c_device_Device_Wake fun B _=>?_
  unfold device_Device_Wake
  refine xdev 0 fun hi b s cs hp sf hsn=>?_
  subst hp
  have hinv:=wake_inv hi keep
  have hlen:=hi.len
  have hcl:=sf.len
  refine xnil (xget (h:=?_))
  refine xloop1 (fun n i As=>∃ (k:Nat) (cs':List CF),i=(k:Int)∧n=m.fs.length - k∧k≤m.fs.length∧cs'.length=m.fs.length∧As=[Blk b (devCells m s),Ar FILE s cs',Each FileR cs' ((m.fs.map (wakeF keep)).take k++m.fs.drop k)]) m.fs.length ⟨0,cs,rfl,rfl,by omega,hcl,rfl⟩ ?_
  rintro n _ _ K ⟨k,cs',rfl,rfl,hk,hl',rfl⟩ hK
  refine xif_dec (fun h=>?_) (fun h=>?_)
  · refine xfact 2 (fun g hg=>sf_of hg) fun sf'=>?_
    have hkl:k<m.fs.length:=by omega
    have hf0:=List.getElem?_eq_getElem hkl
    have hsy:=hi.syn _ (List.getElem_mem hkl)
    have hfb:m.fs[k].b.length≤16777216:=by
      have h1:=usedN_erase hf0
      have h2:=hi.used
      have h3:=hi.room
      omega
    have hf:((m.fs.map (wakeF keep)).take k++m.fs.drop k)[k]? = some m.fs[k]:=by
      rw [List.getElem?_append_right (by simp;omega)]
      simp [Nat.min_eq_left (Nat.le_of_lt hkl),hf0]
    have hset:((m.fs.map (wakeF keep)).take k++m.fs.drop k).set k (wakeF keep m.fs[k])=(m.fs.map (wakeF keep)).take (k+1)++m.fs.drop (k+1):=by
      have hlt:((m.fs.map (wakeF keep)).take k).length=k:=by simp;omega
      rw [List.drop_eq_getElem_cons hkl,List.set_append_right _ _ (by omega),hlt,Nat.sub_self,List.set_cons_zero,List.take_add_one,List.getElem?_map,hf0]
      simp only [Option.map_some,Option.toList_some,List.append_assoc,List.singleton_append]
    generalize m.fs[k]=f at *
    have hc:=List.getElem?_eq_getElem (l:=cs') (i:=k) (by omega)
    generalize cs'[k]=c at hc
    obtain ⟨e1,e2,e3,e4⟩:=sf'.each _ _ _ hc hf
    have hkn:=keepN_le hsy keep
    refine xnil (xget (h:=?_))
    refine xidxn (h1:=by omega) (h:=fun _ _=>xdraw (xnil ?_))
    refine xgetEj hc (h:=xnil ?_)
    refine xgetEj hc (h:=xnil ?_)
    refine xgetEj hc (h:=xnil ?_)
    rw [e2,e3,keep_eq keep hsy hfb]
    refine xsetEj (c.1,c.2.1,keepN keep f) hc (hj:=by decide) (hv:=rfl) (h:=xdraw (xnil ?_))
    have hc2:(cs'.set k (c.1,c.2.1,keepN keep f))[k]? = some (c.1,c.2.1,keepN keep f):=List.getElem?_set_self (by omega)
    refine xgetEj hc2 (h:=xnil ?_)
    refine xgetEj hc2 (h:=?_)
    dsimp only
    refine xslc0 rfl (by omega) (by omega) (xnil ?_)
    refine xsetEj (c.1,⟨c.2.1.p,(keepN keep f).toNat,c.2.1.c⟩,keepN keep f) hc2 (hj:=by decide) (hv:=rfl) (h:=?_)
    rw [List.set_set,wrap_succ k (by omega)]
    refine xfold1 2 (file_set (c':=(c.1,⟨c.2.1.p,(keepN keep f).toNat,c.2.1.c⟩,keepN keep f)) (f':=wakeF keep f) hc hf (fun g h=>⟨h.1,rfl,ar_cut (by omega) h.2.2⟩)) ?_
    rw [hset]
    exact xback 0 (hK (m.fs.length - (k+1)) _ _ (by omega) ⟨k+1,_,rfl,rfl,by omega,by simpa using hl',rfl⟩)
  · have hk':k=m.fs.length:=by omega
    subst hk'
    rw [List.take_of_length_le (by simp),List.drop_length,List.append_nil]
    refine xnil (xset (h:=xset (h:=xset (h:=?_))))
    exact xdev_put 0 0 0 b s cs' (wakeM m keep) hinv (fun _ h=>h) (xret rfl)
theorem SameTexts_spec (a b:Sl) (xs ys:List ByteArray) (hm:xs.length≤140737488355328) :
    Ct Pr F_kit_SameTexts [a.v,b.v] .one [.bool] [] ((RAr ST a xs).and (RAr ST b ys)) (fun t Bs=>t.1=decide (xs=ys)∧Bs=[]):=by
  refine spec1 c_kit_SameTexts fun B hr=>?_
  have fa:Fro B a ST xs:=⟨hr.1⟩
  have fb:Fro B b ST ys:=⟨hr.2⟩
  have ha:=hr.1.1
  have hb:=hr.2.1
  unfold kit_SameTexts
  refine xif (fun h=>?_) (fun h=>?_)
  · refine xret ⟨?_,rfl⟩
    have:xs≠ys:=fun e=>by subst e;simp [←ha,←hb] at h
    simp [this]
  · have hl:xs.length=ys.length:=by simp at h;omega
    refine xloop1 (fun n i As=>∃ k:Nat,i=(k:Int)∧n=xs.length - k∧k≤xs.length∧xs.take k=ys.take k∧As=[]) xs.length ⟨0,rfl,rfl,by omega,rfl,rfl⟩ ?_
    rintro n _ _ K ⟨k,rfl,rfl,hk,he,rfl⟩ hK
    refine xif_dec (fun h=>?_) (fun h=>?_)
    · refine xdraw (xidxn rfl (by omega) fun x hx=>xgetE hx rfl rfl (xidxn rfl (by omega) fun y hy=>xgetE hy rfl rfl ?_))
      refine xif (fun h=>?_) (fun h=>?_)
      · refine xret ⟨?_,rfl⟩
        have:xs≠ys:=fun e=>by subst e;rw [hx] at hy;cases hy;simp at h
        simp [this]
      · rw [wrap_succ k (by omega)]
        refine hK (xs.length - (k+1)) _ _ (by omega) ⟨k+1,rfl,rfl,by omega,?_,rfl⟩
        have:x=y:=ba_toList_inj (by simpa using h)
        rw [List.take_add_one,List.take_add_one,he,hx,hy,this]
    · refine xret ⟨?_,rfl⟩
      have:k=xs.length:=by omega
      subst this
      rw [List.take_length,hl,List.take_length] at he
      simp [he]
theorem read_at {m:DM}(h:Sorted m.fs) {i:Nat}{f:DF}(hf:m.fs[i]? = some f):readM m f.nm=(f.b,0):=by
  obtain ⟨h1,h2⟩:=find_unique h hf rfl
  unfold readM
  simp only [DF.key] at h1 h2
  rw [h1,h2]
  simp [hf]
theorem rDown_spec (p:Option Addr) (m:DM):Ct Pr F_ref12_Device_Down [.pointer p] .one [.bool] [RefDev p m] emp (fun t Bs=>t.1=m.down∧Bs=[RefDev p m]):=by
  refine spec1 c_ref12_Device_Down fun B _=>?_
  unfold ref12_Device_Down
  refine xrdev 0 fun hi b s cs hp sf hn=>?_
  subst hp
  exact xnil (xget (h:=xrdev_back b s cs hi (xret ⟨rfl,rfl⟩)))
theorem rArm_spec (p:Option Addr) (m:DM) (n:Int) (hn:i64 n):Ct Pr F_ref12_Device_Arm [.pointer p,.int .i64 n] (.tup []) [] [RefDev p m] emp (fun t Bs=>Bs=[RefDev p (armM m n)]):=by
  refine spec0 c_ref12_Device_Arm fun B _=>?_
  unfold ref12_Device_Arm
  refine xrdev 0 fun hi b s cs hp sf hsn=>?_
  subst hp
  refine xnil (xset (h:=xjoin (xif_dec (fun h=>?_) (fun h=>?_))))
  · have e:leftR (armM m n) = -1:=by simp [leftR,armM];omega
    refine xnil (xset (h:=xrdev_put 0 0 0 b s cs (armM m n) (arm_inv hi hn) (fun _ h=>?_) (xret rfl)))
    unfold refCells
    rw [e];exact h
  · have e:leftR (armM m n)=n:=by simp [leftR,armM];omega
    refine xrdev_put 0 0 0 b s cs (armM m n) (arm_inv hi hn) (fun _ h=>?_) (xret rfl)
    unfold refCells
    rw [e];exact h
theorem rWake_spec (p:Option Addr) (m:DM) (keep:Int):Ct Pr F_ref12_Device_Wake [.pointer p,.int .i64 keep] (.tup []) [] [RefDev p m] emp (fun t Bs=>Bs=[RefDev p (wakeM m keep)]):=by
  refine spec0 c_ref12_Device_Wake fun B _=>?_
  unfold ref12_Device_Wake
  refine xrdev 0 fun hi b s cs hp sf hsn=>?_
  subst hp
  have hinv:=wake_inv hi keep
  have hlen:=hi.len
  have hcl:=sf.len
  refine xloop1 (fun n i As=>∃ (k:Nat) (cs':List CF),i=(k:Int)∧n=m.fs.length - k∧k≤m.fs.length∧cs'.length=m.fs.length∧As=[Blk b (refCells m s),Ar FILE s cs',Each FileR cs' ((m.fs.map (wakeF keep)).take k++m.fs.drop k)]) m.fs.length ⟨0,cs,rfl,rfl,by omega,hcl,rfl⟩ ?_
  rintro n _ _ K ⟨k,cs',rfl,rfl,hk,hl',rfl⟩ hK
  refine xnil (xget (h:=xif_dec (fun h=>?_) (fun h=>?_)))
  · refine xfact 2 (fun g hg=>sf_of hg) fun sf'=>?_
    have hkl:k<m.fs.length:=by omega
    have hf0:=List.getElem?_eq_getElem hkl
    have hsy:=hi.syn _ (List.getElem_mem hkl)
    have hfb:m.fs[k].b.length≤16777216:=by
      have h1:=usedN_erase hf0
      have h2:=hi.used
      have h3:=hi.room
      omega
    have hf:((m.fs.map (wakeF keep)).take k++m.fs.drop k)[k]? = some m.fs[k]:=by
      rw [List.getElem?_append_right (by simp;omega)]
      simp [Nat.min_eq_left (Nat.le_of_lt hkl),hf0]
    have hset:((m.fs.map (wakeF keep)).take k++m.fs.drop k).set k (wakeF keep m.fs[k])=(m.fs.map (wakeF keep)).take (k+1)++m.fs.drop (k+1):=by
      have hlt:((m.fs.map (wakeF keep)).take k).length=k:=by simp;omega
      rw [List.drop_eq_getElem_cons hkl,List.set_append_right _ _ (by omega),hlt,Nat.sub_self,List.set_cons_zero,List.take_add_one,List.getElem?_map,hf0]
      simp only [Option.map_some,Option.toList_some,List.append_assoc,List.singleton_append]
    generalize m.fs[k]=f at *
    have hc:=List.getElem?_eq_getElem (l:=cs') (i:=k) (by omega)
    generalize cs'[k]=c at hc
    obtain ⟨e1,e2,e3,e4⟩:=sf'.each _ _ _ hc hf
    have hkn:=keepN_le hsy keep
    generalize (m.fs.map (wakeF keep)).take k++m.fs.drop k=gs at *
    refine xnil (xget (h:=?_))
    refine xidxn (h1:=by omega) (h:=fun _ _=>?_)
    refine xgetEj hc (h:=?_)
    rw [e2]
    refine xloop2 (fun(n:Nat) (n1:Int) (q:Int) As=>∃ t:Nat,q=(t:Int)∧n1=f.sy+(t:Int)∧f.sy+(t:Int)≤f.b.length∧(t=0∨(t:Int)≤keep)∧n=(f.b.length - (f.sy+(t:Int))).toNat∧As=[Blk b (refCells m s),Ar FILE s cs',Each FileR cs' gs]) (f.b.length - f.sy).toNat ⟨0,rfl,by omega,by omega,.inl rfl,by omega,rfl⟩ ?_
    rintro n _ _ _ K2 ⟨q,rfl,rfl,hnl,hqk,rfl,rfl⟩ hK2
    refine xjoin1 (fun x As'=>x=decide ((q:Int)<keep∧f.sy+(q:Int)<f.b.length)∧As'=[Blk b (refCells m s),Ar FILE s cs',Each FileR cs' gs]) ?_ ?_
    · intro J hJ
      refine xif_dec (fun h=>?_) (fun h=>hJ _ _ ⟨by simp [h],rfl⟩)
      refine xnil (xget (h:=?_))
      refine xidxn (h1:=by omega) (h:=fun _ _=>?_)
      refine xgetEj hc (h:=hJ _ _ ⟨?_,rfl⟩)
      rw [e3];simp [h]
    rintro _ _ ⟨rfl,rfl⟩
    refine xif_dec (fun h=>?_) (fun h=>?_)
    · rw [wrap_id (f.sy+(q:Int)+1) (by omega) (by omega),wrap_succ q (by omega)]
      exact hK2 (f.b.length - (f.sy+((q+1:Nat):Int))).toNat _ _ _ (by omega) ⟨q+1,rfl,by omega,by omega,.inr (by omega),rfl,rfl⟩
    have hkeep:f.sy+(q:Int)=keepN keep f:=by
      unfold keepN
      split<;>split<;>omega
    rw [hkeep]
    refine xdraw (xnil (xget (h:=xnil (xget (h:=?_)))))
    refine xidxn (h1:=by omega) (h:=fun _ _=>?_)
    refine xgetEj hc (h:=?_)
    refine xslc0 rfl (by omega) (by omega) ?_
    refine xcl (CopyBytes_spec ⟨c.2.1.p,(keepN keep f).toNat,c.2.1.c⟩ (f.b.take (keepN keep f).toNat) (by rw [List.length_take];omega)) (rds_pick 2 (fun g hg=>each_read (R:=FileR) (S:=fun c f' g=>(keepN keep f).toNat≤f'.b.length→RAr U8 ⟨c.2.1.p,(keepN keep f).toNat,c.2.1.c⟩ (f'.b.take (keepN keep f).toNat) g) (fun _ _ _ _ h s l=>(h l).mono s) (fun c' f' g h l=>(ar_cut l h.2.2).read) hg hc hf (by omega)) (fun _ _ h s=>h.mono s)) ?_
    rintro ⟨s8,_⟩ _ rfl
    refine app1 (ca1 (xchk (h:=?_)))
    refine xidxn (h1:=by omega) (h:=fun _ _=>?_)
    refine xsetEj (c.1,s8,c.2.2) hc (hj:=by decide) (hv:=rfl) (h:=xnil (xget (h:=?_)))
    have hc2:(cs'.set k (c.1,s8,c.2.2))[k]? = some (c.1,s8,c.2.2):=List.getElem?_set_self (by omega)
    refine xidxn (h1:=by simp;omega) (h:=fun _ _=>?_)
    refine xsetEj (c.1,s8,keepN keep f) hc2 (hj:=by decide) (hv:=rfl) (h:=?_)
    rw [List.set_set,wrap_succ k (by omega)]
    refine xfold [Ar U8 s8 (f.b.take (keepN keep f).toNat),Each FileR cs' gs] (Each FileR (cs'.set k (c.1,s8,keepN keep f)) (gs.set k (wakeF keep f))) (fun g hg=>file_new (c':=(c.1,s8,keepN keep f)) (f':=wakeF keep f) hc hf e1 rfl g hg) ?_
    rw [hset]
    exact xuse [Blk b (refCells m s),Ar FILE s (cs'.set k (c.1,s8,keepN keep f)),Each FileR (cs'.set k (c.1,s8,keepN keep f)) ((m.fs.map (wakeF keep)).take (k+1)++m.fs.drop (k+1))] (hK (m.fs.length - (k+1)) _ _ (by omega) ⟨k+1,_,rfl,rfl,by omega,by simpa using hl',rfl⟩)
  · have hk':k=m.fs.length:=by omega
    subst hk'
    rw [List.take_of_length_le (by simp),List.drop_length,List.append_nil]
    refine xnil (xset (h:=xnil (xset (h:=?_))))
    exact xrdev_put 0 0 0 b s cs' (wakeM m keep) hinv (fun _ h=>h) (xret rfl)
theorem append_specP {P:Program}{t ty e:TypeId}{sz by_:Nat}(hok:appOk P t e sz by_=true) {E:Enc α}(hsz:E.sz=sz) (hz:zeroOf P e=some (E.f E.zero)) {s y:Sl}{xs zs ys:List α}{F:List HP}{w:World}(hw:Sx B (Ars E s xs zs::F) w) (hy:RAr E y ys (mem w))
    (hb:(xs.length+ys.length)*by_≤140737488355328) :
    ∃ s' w' zs',(Builtin.append_ #[t,t] ty #[s.v,y.v]).run P w=.ok (Sl.v s') w'∧Sx B (Ars E s' (xs++ys) zs'::F) w'∧∀ z∈zs',z∈zs∨z=E.zero:=by
  subst hsz
  obtain ⟨p,sn,sc⟩:=s
  obtain ⟨q,n,c⟩:=y
  obtain ⟨hyn,hyr⟩:=hy
  simp only at hyn
  have hfy:=fun(w2:World) (h:mem w2=mem w)=>RArr.first (P:=P) (w:=w2) (by rw [h];exact hyr)
  have hw0:=hw
  obtain ⟨g,⟨h1,h2,p1,p2,dd,s1,s2⟩,hsub,hupd⟩:=hw
  have hxr:RAr E ⟨p,sn,sc⟩ xs (mem w):=p1.read.mono (s1.trans hsub)
  have hfx:=fun(w2:World) (h:mem w2=mem w)=>RArr.first (P:=P) (w:=w2) (by rw [h];exact hxr.2)
  have hxn:xs.length=sn:=p1.1
  have hxc:xs.length+zs.length=sc:=p1.2.1
  by_cases hroom:sn+n≤sc
  · cases p with
    | none=>
      have h0:sc=0:=by
        rcases p1.2.2 with ⟨_,h⟩ | ⟨b,o,_,_,_,_,h,_⟩
        · exact h
        · cases h
      have hys:ys=[]:=List.eq_nil_of_length_eq_zero (by omega)
      have hn0:n=0:=by omega
      subst hys hn0
      refine ⟨⟨none,sn+0,sc⟩,w,zs,append_none hok (hfy w rfl) hroom,?_,fun z h=>.inl h⟩
      rw [List.append_nil]
      exact hw0
    | some a=>
      rcases p1.2.2 with ⟨h,_⟩ | ⟨b,o,pre,post,e1,fr,hp,hbk,ho,hfr,hM⟩
      · cases h
      · simp only [Option.some.injEq] at hp
        subst hp
        have hwb:w.heap[b]? = some (.cells (pre++flat E (xs++zs)++post).toArray e1 fr):=hsub _ _ (s1 _ _ hbk)
        have hfl:=flat_length E xs
        have hfly:=flat_length E ys
        have hzl:ys.length≤zs.length:=by omega
        have hzsplit:flat E (xs++zs)=flat E xs++flat E (zs.take ys.length)++flat E (zs.drop ys.length):=by
          rw [←flat_append,←flat_append,List.append_assoc,List.take_append_drop]
        obtain ⟨w',r1,r2,r3,r4,r5,r6,r7⟩:=storeCells_blk (P:=P) b e1 fr (flat E ys) (o+sn*E.sz) 0 (pre++flat E (xs++zs)++post) w hwb (by
          have:(xs.length+ys.length)*E.sz≤(xs.length+zs.length)*E.sz:=Nat.mul_le_mul_right _ (by omega)
          rw [Nat.add_mul] at this
          simp only [List.length_append,flat_length,hfly,ho,←hxn];omega) hfr (flat_one E ys)
        have hseg:setSeg (flat E ys) (o+sn*E.sz+0) (pre++flat E (xs++zs)++post)=pre++flat E (xs++ys++zs.drop ys.length)++post:=by
          have:=setSeg_mid (flat E ys) (pre++flat E xs) (flat E (zs.take ys.length)) (flat E (zs.drop ys.length)++post) (by rw [flat_length,flat_length,List.length_take,Nat.min_eq_left hzl])
          rw [List.length_append,ho,hfl,hxn] at this
          rw [Nat.add_zero,hzsplit,flat_append,flat_append]
          simp only [List.append_assoc] at this ⊢
          exact this
        rw [hseg] at r2
        refine ⟨⟨some ⟨b,o,none⟩,sn+n,sc⟩,w',zs.drop ys.length,append_fits hok (hfy w rfl) hroom (by rw [add_none];exact r1),?_,fun z h=>.inl (List.mem_of_mem_drop h)⟩
        have hst:Sx B (Blk b (pre++flat E (xs++zs)++post)::F) w:=⟨g,⟨h1,h2,⟨e1,fr,hbk,hfr⟩,p2,dd,s1,s2⟩,hsub,hupd⟩
        have:=hst.write (cs':=pre++flat E (xs++ys++zs.drop ys.length)++post) hwb r3 r2 (by
          simp only [List.length_append,List.length_drop,flat_length]
          have:xs.length+ys.length+(zs.length - ys.length)=xs.length+zs.length:=by omega
          rw [this]) r4 r5 r6 r7
        obtain ⟨g',hg',hm',hu'⟩:=this
        exact ⟨g',star_imp (Q:=Ars E ⟨some ⟨b,o,none⟩,sn+n,sc⟩ (xs++ys) (zs.drop ys.length)) (fun q hq=>Ars.of_blk hq rfl ho (by simp;omega) (by simp;omega) hM) hg',hm',hu'⟩
  · obtain ⟨k,hk,hkM,hrun⟩:=append_grows (ty:=ty) hok hfx hfy hroom (by rw [←hxn,←hyn];exact hb) hz
    refine ⟨⟨some ⟨w.heap.size,0,none⟩,sn+n,k⟩,_,List.replicate (k - (sn+n)) E.zero,hrun,?_,fun z h=>.inr (List.eq_of_mem_replicate h)⟩
    have hd:Sx B (Ars E ⟨p,sn,sc⟩ xs zs::F) w.drew:=hw0.drew
    have ha:=(hd.tail).alloc (flat E xs++flat E ys++repL (E.f E.zero) (k - (sn+n))) e
    obtain ⟨g',hg',hm',hu'⟩:=ha
    refine ⟨g',star_imp (Q:=Ars E ⟨some ⟨w.heap.size,0,none⟩,sn+n,k⟩ (xs++ys) (List.replicate (k - (sn+n)) E.zero)) (fun q hq=>?_) hg',hm',hu'⟩
    rw [repL_flat,←flat_append,←flat_append] at hq
    exact Ars.of_blk (pre:=[]) (post:=[]) (by simpa using hq) rfl rfl (by simp;omega) (by simp;omega) hkM
theorem xapp1P {P:Program}{t ty e:TypeId}{sz by_:Nat}{z:List Value} [a:AppT P t e sz by_ z] {E:Enc α}{s:Sl}{xs zs:List α}{b:Nat}{cs:List Value}{updb:List Value→List HP}{F F':List HP}{K:Sl→WP}
    [ob:Own b As cs updb F] [o:Find (Ars E s xs zs) F F'] (x:α) (hx:E.f x=cs:=by rfl) (hsz:E.sz=sz:=by rfl) (hz:E.f E.zero=z:=by rfl) (hb:(xs.length+1)*by_≤140737488355328)
    (h:∀ s' zs',(∀ z∈zs',z∈zs∨z=E.zero)→Ent B (Ars E s' (xs++[x]) zs'::F') (K s')) :
    Ent B As (XApp P t t ty s.v (.slice (some ⟨b,0,none⟩) 1 1) K):=by
  intro w hw
  have hw1:Sx B (Blk b cs::F) w:=hw.own
  have hw2:Sx B (Ars E ⟨some ⟨b,0,none⟩,1,1⟩ [x] []::F) w:=by
    obtain ⟨g,hg,hm,hu⟩:=hw1
    exact ⟨g,star_imp (fun q hq=>blk_ar [x] 1 rfl (by simp [flat,hx]) hq) hg,hm,hu⟩
  obtain ⟨q,hq,hqs⟩:=hw2.head
  obtain ⟨s',w',zs',hr,hx',hzz⟩:=append_specP (ty:=ty) a.ok hsz (by rw [hz];exact a.zero) (hw1.tail.perm o.perm) (hq.read.mono hqs) (by simpa using hb)
  exact ⟨s',w',hr,h s' zs' hzz w' hx'⟩
theorem Names2_spec (p:Option Addr) (m:DM):Ct Pr F_device_Device_Names [.pointer p] .one [.slice] [DevObj p m] emp (fun t Bs=>∃ zs:List ByteArray,(∀ z∈zs,z=ByteArray.empty)∧Bs=[DevObj p m,Ars Cf.ST t.1 (m.fs.map (·.nm)) zs]):=by
  refine spec1 c_device_Device_Names fun B _=>?_
  unfold device_Device_Names
  refine xdev 0 fun hi b s cs hp sf hsn=>?_
  subst hp
  have hlen:=hi.len
  have hcl:=sf.len
  refine xnil (xget (h:=xadd (A:=Ars Cf.ST ⟨none,0,0⟩ [] []) ⟨rfl,rfl,.inl ⟨rfl,rfl⟩⟩ ?_))
  refine xloop2 (fun n o i As=>∃ (k:Nat) (zs:List ByteArray),i=(k:Int)∧n=m.fs.length - k∧k≤m.fs.length∧(∀ z∈zs,z=ByteArray.empty)∧As=[Ars Cf.ST o ((m.fs.map fun f:DF=>f.nm).take k) zs,Blk b (devCells m s),Ar FILE s cs,Each FileR cs m.fs]) m.fs.length ⟨0,[],rfl,rfl,by omega,by simp,rfl⟩ ?_
  rintro n o _ _ K ⟨k,zs,rfl,rfl,hk,hzs,rfl⟩ hK
  refine xif_dec (fun h=>?_) (fun h=>?_)
  · have hf:=List.getElem?_eq_getElem (l:=m.fs) (i:=k) (by omega)
    have hc:=List.getElem?_eq_getElem (l:=cs) (i:=k) (by omega)
    obtain ⟨h1,_⟩:=sf.each _ _ _ hc hf
    refine xidxn (h1:=by omega) (h:=fun _ _=>?_)
    refine xgetE hc (h:=?_)
    refine xgetEj hc (h:=?_)
    refine xgetEj hc (h:=xnew fun b1=>xset (h:=xset (h:=xset (h:=xget (h:=xnew fun b2=>?_)))))
    refine xapp1P (E:=Cf.ST) (zs:=zs) (xs:=(m.fs.map fun f:DF=>f.nm).take k) cs[k].1 (hb:=by simp;omega) (h:=fun s' zs' hz'=>?_)
    rw [wrap_succ k (by omega)]
    refine xdrop 1 (hK (m.fs.length - (k+1)) _ _ _ (by omega) ⟨k+1,zs',rfl,rfl,by omega,fun z hz=>?_,?_⟩)
    · rcases hz' z hz with h | h
      · exact hzs z h
      · exact h
    · rw [List.take_add_one,List.getElem?_map,hf,h1];rfl
  · have:k=m.fs.length:=by omega
    subst this
    rw [List.take_of_length_le (by simp)]
    exact xdev_back b s cs hi (xret ⟨zs,hzs,rfl⟩)
theorem SpoilTexts_spec (l:Sl) (xs zs:List ByteArray) (hx:∀ x∈xs++zs,x.size≤4096):Ct Pr F_kit_SpoilTexts [l.v] (.tup []) [] [Ars Cf.ST l xs zs] emp (fun t Bs=>Bs=[]):=by
  refine spec0 c_kit_SpoilTexts fun B _=>?_
  unfold kit_SpoilTexts
  refine xslc0 rfl (by omega) (by omega) ?_
  rw [Int.toNat_natCast]
  refine xfact 0 (fun g hg=>(⟨hg.2.1,hg.cap_le⟩:xs.length+zs.length=l.c∧_)) fun hM=>?_
  obtain ⟨h2,hM⟩:=hM
  refine xshift l.c (xs++zs) [] (by simp) (by simpa using h2) (xar ?_)
  refine xloop1 (fun n i As=>∃ (k:Nat) (ys:List ByteArray),i=(k:Int)∧n=l.c - k∧k≤l.c∧ys.length=l.c∧(∀ y∈ys.drop k,y.size≤4096)∧As=[Ar Cf.ST ⟨l.p,l.c,l.c⟩ ys]) l.c ⟨0,xs++zs,rfl,rfl,by omega,by simpa using h2,hx,rfl⟩ ?_
  rintro n _ _ K ⟨k,ys,rfl,rfl,hk,hl,hys,rfl⟩ hK
  refine xif_dec (fun h=>?_) (fun h=>?_)
  · simp only at h
    have hkl:k<ys.length:=by omega
    have hy:=List.getElem?_eq_getElem hkl
    have hsz:ys[k].size≤4096:=hys _ (by rw [List.drop_eq_getElem_cons hkl];exact List.mem_cons_self)
    generalize ys[k]=y at *
    refine xidxn (h1:=by omega) (h:=fun _ _=>?_)
    refine xgetE hy (h:=?_)
    have h1:(⟨#[126]⟩:ByteArray).size=1:=rfl
    refine xasrt (by rw [h1];omega) ?_
    refine xidxn (h1:=by omega) (h:=fun _ _=>?_)
    refine xsetE (y++⟨#[126]⟩) hy (hv:=rfl) (h:=?_)
    rw [wrap_succ k (by omega)]
    refine hK (l.c - (k+1)) _ _ (by omega) ⟨k+1,_,rfl,rfl,by omega,by simpa using hl,?_,rfl⟩
    rw [List.drop_set_of_lt (by omega)]
    intro z hz
    refine hys z ?_
    rw [List.drop_eq_getElem_cons hkl]
    exact List.mem_cons_of_mem _ hz
  · exact xdrop 0 (xret rfl)
theorem dev_some {p:Option Addr}{m:DM}{g:Frag}(h:DevObj p m g):∃ b,p=some ⟨b,0,none⟩:=by
  obtain ⟨_,b,_,_,h,_⟩:=h
  exact ⟨b,h⟩
theorem body_le {m:DM}(hi:DInv m) (nm:ByteArray):(readM m nm).1.length≤16777216:=by
  unfold readM
  cases ht:thereL m.fs nm.toList with
  | false=>simp
  | true=>
    obtain ⟨hf,_⟩:=getD_there (d:=⟨nm,[],0⟩) ht
    have h1:=usedN_erase hf
    have h2:=hi.used
    have h3:=hi.room
    show (m.fs.getD (findL m.fs nm.toList) ⟨nm,[],0⟩).b.length≤_
    omega
theorem Looks_spec (p q:Option Addr) (m:DM):Ct Pr F_law12_Looks [.pointer p,.pointer q] .one [.bool] [DevObj p m,RefDev q m] emp (fun t Bs=>t.1=true∧Bs=[DevObj p m,RefDev q m]):=by
  refine spec1 c_law12_Looks fun B _=>?_
  unfold law12_Looks
  refine xfact 0 (fun g hg=>(⟨hg.1,dev_some hg⟩:DInv m∧∃ b,p=some ⟨b,0,none⟩)) fun hi=>?_
  obtain ⟨hi,b,rfl⟩:=hi
  have hlen:=hi.len
  refine xcl (Names2_spec (some ⟨b,0,none⟩) m) rdb ?_
  rintro ⟨s,_⟩ _ ⟨zs,hzs,rfl⟩
  refine app2 (ca1 ?_)
  refine xcl (rNames_spec q m) rdb ?_
  rintro ⟨s1,_⟩ _ rfl
  refine app2 (ca1 ?_)
  refine xlen s1 fun h1n _=>?_
  simp only [List.length_map] at h1n
  refine xcl (SameTexts_spec s s1 (m.fs.map (·.nm)) (m.fs.map (·.nm)) (by simp;omega)) (rds_and rdb rdb) ?_
  rintro ⟨c,_⟩ _ ⟨hc,rfl⟩
  obtain rfl:c=true:=by simpa using hc
  refine app0 (ca1 (xjoin (xiff rfl ?_)))
  refine xcl (Used_spec (some ⟨b,0,none⟩) m) rdb ?_
  rintro ⟨r,_⟩ _ ⟨hr,rfl⟩
  simp only at hr
  subst hr
  refine app1 (ca1 ?_)
  refine xcl (rUsed_spec q m) rdb ?_
  rintro ⟨r,_⟩ _ ⟨hr,rfl⟩
  simp only at hr
  subst hr
  refine app1 (ca1 (xjoin (xiff (by simp) ?_)))
  refine xcl (Free_spec (some ⟨b,0,none⟩) m) rdb ?_
  rintro ⟨r,_⟩ _ ⟨hr,rfl⟩
  simp only at hr
  subst hr
  refine app1 (ca1 ?_)
  refine xcl (rFree_spec q m) rdb ?_
  rintro ⟨r,_⟩ _ ⟨hr,rfl⟩
  simp only at hr
  subst hr
  refine app1 (ca1 (xjoin (xiff (by simp) (xnil ?_))))
  refine xcl (Down_spec (some ⟨b,0,none⟩) m) rdb ?_
  rintro ⟨r,_⟩ _ ⟨hr,rfl⟩
  simp only at hr
  subst hr
  refine app1 (ca1 ?_)
  refine xcl (rDown_spec q m) rdb ?_
  rintro ⟨r,_⟩ _ ⟨hr,rfl⟩
  simp only at hr
  subst hr
  refine app1 (ca1 (xiff (by simp) ?_))
  refine xcl (SpoilTexts_spec s (m.fs.map (·.nm)) zs (fun x hx=>?_)) rdb ?_
  · rcases List.mem_append.1 hx with h | h
    · obtain ⟨f,hf,rfl⟩:=List.mem_map.1 h
      have:=hi.names f hf
      simp [namedB] at this
      omega
    · rw [hzs x h];decide
  rintro _ _ rfl
  refine app0 (ca0 ?_)
  refine xuse [DevObj (some ⟨b,0,none⟩) m,RefDev q m,Ar Cf.ST s1 (m.fs.map (·.nm))] ?_
  refine xloop1 (fun n i As=>∃ (k:Nat),i=(k:Int)∧n=m.fs.length - k∧k≤m.fs.length∧As=[DevObj (some ⟨b,0,none⟩) m,RefDev q m,Ar Cf.ST s1 (m.fs.map (·.nm))]) m.fs.length ⟨0,rfl,rfl,by omega,rfl⟩ ?_
  rintro n _ _ K ⟨k,rfl,rfl,hk,rfl⟩ hK
  refine xif_dec (fun h=>?_) (fun h=>?_)
  · have hf:=List.getElem?_eq_getElem (l:=m.fs) (i:=k) (by omega)
    have hrd:=read_at hi.sorted hf
    have hbl:=body_le hi m.fs[k].nm
    have hn:(m.fs.map fun f:DF=>f.nm)[k]? = some m.fs[k].nm:=by rw [List.getElem?_map,hf];rfl
    rw [hrd] at hbl
    simp only at hbl
    generalize m.fs[k]=f at *
    refine xidxn (h1:=by simp;omega) (h:=fun _ _=>?_)
    refine xgetE hn (h:=?_)
    refine xcl (Read_spec (some ⟨b,0,none⟩) m f.nm) rdb ?_
    rw [hrd]
    rintro ⟨s2,r4,_⟩ _ ⟨h4,rfl⟩
    obtain rfl:r4=0:=h4
    refine app2 (ca2 ?_)
    refine xidxn (h1:=by simp;omega) (h:=fun _ _=>?_)
    refine xgetE hn (h:=?_)
    refine xcl (Read_spec (some ⟨b,0,none⟩) m f.nm) rdb ?_
    rw [hrd]
    rintro ⟨s3,r5,_⟩ _ ⟨h5,rfl⟩
    obtain rfl:r5=0:=h5
    refine app2 (ca2 ?_)
    refine xidxn (h1:=by simp;omega) (h:=fun _ _=>?_)
    refine xgetE hn (h:=?_)
    refine xcl (rRead_spec q m f.nm) rdb ?_
    rw [hrd]
    rintro ⟨s4,r6,_⟩ _ ⟨h6,rfl⟩
    obtain rfl:r6=0:=h6
    refine app2 (ca2 (xjoin (xiff rfl ?_)))
    refine xcl (SameBytes_spec s2 s4 f.b f.b (by omega)) (rds_and rdb rdb) ?_
    rintro ⟨c,_⟩ _ ⟨hc,rfl⟩
    obtain rfl:c=true:=by simpa using hc
    refine app0 (ca1 (xjoin (xiff rfl ?_)))
    refine xcl (SameBytes_spec s3 s4 f.b f.b (by omega)) (rds_and rdb rdb) ?_
    rintro ⟨c,_⟩ _ ⟨hc,rfl⟩
    obtain rfl:c=true:=by simpa using hc
    refine app0 (ca1 (xiff rfl ?_))
    refine xcl (SpoilBytes_spec s2 f.b) rdb ?_
    rintro _ _ rfl
    refine app0 (ca0 ?_)
    refine xcl (SameBytes_spec s3 s4 f.b f.b (by omega)) (rds_and rdb rdb) ?_
    rintro ⟨c,_⟩ _ ⟨hc,rfl⟩
    obtain rfl:c=true:=by simpa using hc
    refine app0 (ca1 (xiff rfl ?_))
    rw [wrap_succ k (by omega)]
    exact xuse [DevObj (some ⟨b,0,none⟩) m,RefDev q m,Ar Cf.ST s1 (m.fs.map (·.nm))] (hK (m.fs.length - (k+1)) _ _ (by omega) ⟨k+1,rfl,rfl,by omega,rfl⟩)
  · exact xuse [DevObj (some ⟨b,0,none⟩) m,RefDev q m] (xret ⟨rfl,rfl⟩)
end Go.Cx
namespace Go.Cx
open Go Go.Cf Go.Cx
set_option linter.unusedVariables false
set_option maxRecDepth 100000
variable {B:Base}{As F:List HP}{α:Type}
theorem LentBytes_spec (l:Sl) (xs:List UInt8) (hm:xs.length≤140737488351232) :
    Ct Pr F_kit_LentBytes [l.v] .one [.slice] [] (RAr U8 l xs) (fun t Bs=>Bs=[Ars U8 t.1 xs (List.replicate 5 165)]):=by
  refine spec1 c_kit_LentBytes fun B hr=>?_
  have fa:Fro B l U8 xs:=⟨hr⟩
  have ha:=hr.1
  unfold kit_LentBytes
  rw [wrap_id ((l.n:Int)+5) (by omega) (by omega)]
  refine xmake U8 (by omega) (by omega) (h:=fun b=>?_)
  have hn:((l.n:Int)+5).toNat=l.n+5:=by omega
  rw [hn]
  refine xloop1 (fun n i As=>∃ (k:Nat) (ys:List UInt8),i=(k:Int)∧n=xs.length - k∧k≤xs.length∧ys.length=xs.length+5∧(∀ j,j<k→ys[j]? = (xs++List.replicate 5 165)[j]?)∧As=[Ar U8 ⟨some ⟨b,0,none⟩,l.n+5,l.n+5⟩ ys]) xs.length ⟨0,List.replicate (l.n+5) 0,rfl,rfl,by omega,by simp;omega,by intro j hj;omega,rfl⟩ ?_
  rintro n _ _ K ⟨k,ys,rfl,rfl,hk,hl,hys,rfl⟩ hK
  refine xif_dec (fun h=>?_) (fun h=>?_)
  · refine xidxn (h1:=by omega) (h:=fun x hx=>?_)
    refine xgetE hx (h:=?_)
    refine xidxn (h1:=by omega) (h:=fun y hy=>?_)
    refine xsetE x hy (hv:=rfl) (h:=?_)
    rw [wrap_succ k (by omega)]
    refine hK (xs.length - (k+1)) _ _ (by omega) ⟨k+1,ys.set k x,rfl,rfl,by omega,by simpa using hl,set_upto hys (by omega) ?_,rfl⟩
    rw [List.getElem?_append_left (by omega),hx]
  have hk':k=xs.length:=by omega
  subst hk'
  refine xloop1 (fun n i As=>∃ (k:Nat) (ys:List UInt8),i=(k:Int)∧n=xs.length+5 - k∧xs.length≤k∧k≤xs.length+5∧ys.length=xs.length+5∧(∀ j,j<k→ys[j]? = (xs++List.replicate 5 165)[j]?)∧As=[Ar U8 ⟨some ⟨b,0,none⟩,l.n+5,l.n+5⟩ ys]) 5 ⟨xs.length,ys,by rw [ha],by omega,by omega,by omega,hl,hys,rfl⟩ ?_
  clear hys hl
  rintro n _ _ K' ⟨k,ys,rfl,rfl,hk0,hk,hl,hys,rfl⟩ hK'
  refine xif_dec (fun h=>?_) (fun h=>?_)
  · simp only at h
    refine xidxn (h1:=by omega) (h:=fun y hy=>?_)
    refine xsetE 165 hy (hv:=rfl) (h:=?_)
    rw [wrap_succ k (by omega)]
    refine hK' (xs.length+5 - (k+1)) _ _ (by omega) ⟨k+1,ys.set k 165,rfl,rfl,by omega,by omega,by simpa using hl,set_upto hys (by omega) ?_,rfl⟩
    rw [List.getElem?_append_right (by omega),List.getElem?_replicate,if_pos (by omega)]
  simp only at h
  obtain rfl:ys=xs++List.replicate 5 165:=eq_upto (by simp [hl]) (fun j hj=>hys j (by simp at hj;omega))
  refine xslc0 rfl (by omega) (by simp only;omega) ?_
  refine xars 0 fun zs h1 h2=>?_
  have:zs=[]:=List.eq_nil_of_length_eq_zero (by simp only [List.length_append,List.length_replicate] at h1 h2;omega)
  subst this
  refine xshift l.n xs (List.replicate 5 165) (by simp) ha ?_
  rw [Int.toNat_natCast]
  exact xret rfl
theorem KeptBytes_spec (l m:Sl) (xs:List UInt8) (hm:xs.length≤140737488351232) :
    Ct Pr F_kit_KeptBytes [l.v,m.v] .one [.bool] [] ((RArs U8 l xs (List.replicate 5 165)).and (RAr U8 m xs)) (fun t Bs=>t.1=true∧Bs=[]):=by
  refine spec1 c_kit_KeptBytes fun B hr=>?_
  obtain ⟨⟨h1,h2,h3,h4⟩,h5⟩:=hr
  have fa:Fro B l U8 xs:=⟨h3⟩
  have fb:Fro B m U8 xs:=⟨h5⟩
  have fc:Fro B ⟨l.p,l.c,l.c⟩ U8 (xs++List.replicate 5 165):=⟨h4⟩
  have hmn:=h5.1
  rw [List.length_replicate] at h2
  unfold kit_KeptBytes
  refine xcall0 (SameBytes_spec l m xs xs (by omega)) rdb ?_
  rintro ⟨c,_⟩ _ ⟨hc,rfl⟩
  obtain rfl:c=true:=by simpa using hc
  rw [wrap_id ((m.n:Int)+5) (by omega) (by omega)]
  refine app0 (ca1 (xjoin (xiff rfl (xif_dec (fun h=>absurd h (by omega)) (fun h=>?_)))))
  refine xslc0 rfl (by omega) (by omega) ?_
  have e:((m.n:Int)+5).toNat=l.c:=by omega
  rw [e]
  refine xloop1 (fun n i As=>∃ k:Nat,i=(k:Int)∧n=l.c - k∧xs.length≤k∧k≤l.c∧As=[]) 5 ⟨xs.length,by rw [hmn],by omega,by omega,by omega,rfl⟩ ?_
  rintro n _ _ K ⟨k,rfl,rfl,hk0,hk,rfl⟩ hK
  refine xif_dec (fun h=>?_) (fun h=>?_)
  · simp only at h
    refine xidxn (h1:=by simp;omega) (h:=fun y hy=>?_)
    refine xgetE hy (h:=?_)
    have:y=165:=by
      rw [List.getElem?_append_right (by omega),List.getElem?_replicate,if_pos (by omega)] at hy
      exact (Option.some.inj hy).symm
    subst this
    refine xiff rfl ?_
    rw [wrap_succ k (by omega)]
    exact hK (l.c - (k+1)) _ _ (by omega) ⟨k+1,rfl,rfl,by omega,by omega,rfl⟩
  · exact xret ⟨rfl,rfl⟩
end Go.Cx
namespace Go.Cx
open Go Go.Cf
set_option linter.unusedVariables false
set_option maxRecDepth 100000
def getB (fs:List DF) (k:Key):Option (List UInt8):=(getF fs k).map (·.b)
structure Touch (m r:DM) (S:Key→Prop):Prop where
  inv:DInv r
  room:r.room=m.room
  keep:r.down=false→m.down=false∧∀ k,S k→getB r.fs k=getB m.fs k
theorem Touch.refl {m:DM}(h:DInv m) (S:Key→Prop):Touch m m S:=⟨h,rfl,fun h=>⟨h,fun _ _=>rfl⟩⟩
theorem Touch.trans {a b c:DM}{S:Key→Prop}(h:Touch a b S) (k:Touch b c S):Touch a c S:=
  ⟨k.inv,by rw [k.room,h.room],fun hd=>by
    obtain ⟨h1,h2⟩:=k.keep hd
    obtain ⟨h3,h4⟩:=h.keep h1
    exact ⟨h3,fun x hx=>by rw [h2 x hx,h4 x hx]⟩⟩
theorem Touch.mono {a b:DM}{S T:Key→Prop}(h:Touch a b S) (hs:∀ k,T k→S k):Touch a b T:=
  ⟨h.inv,h.room,fun hd=>⟨(h.keep hd).1,fun x hx=>(h.keep hd).2 x (hs x hx)⟩⟩
theorem touch_of {m:DM}{r:DM×Int}{fs:List DF}{S:Key→Prop}(hI:DInv r.1) (hd:m.down=false) (h:Fails m r∨Done m r fs) (hS:∀ k,S k→getB fs k=getB m.fs k):Touch m r.1 S:=by
  rcases h with h | h
  · refine ⟨hI,by rw [h.2],fun e=>by rw [h.2] at e;cases e⟩
  · exact ⟨hI,h.room,fun _=>⟨hd,fun k hk=>by rw [h.files];exact hS k hk⟩⟩
theorem getB_set {fs:List DF}(hs:Sorted fs) {i:Nat}{f g:DF}(hf:fs[i]? = some f) (hk:g.key=f.key) {k:Key}(h:k≠f.key):getB (fs.set i g) k=getB fs k:=by
  unfold getB;rw [getF_set hs hf hk,if_neg h]
theorem sync_touch {m:DM}(hI:DInv m) (nm:ByteArray):Touch m (syncM m nm).1 fun _=>True:=by
  cases hd:m.down with
  | true=>rw [show syncM m nm=(m,10) from by unfold syncM;exact on_down hd _ _];exact Touch.refl hI _
  | false=>
    cases hf:getF m.fs nm.toList with
    | none=>rw [sync_none hI hd hf];exact Touch.refl hI _
    | some f=>
      refine touch_of (sync_inv hI nm) hd (sync_or hI hd hf) fun k _=>?_
      obtain ⟨h1,h2⟩:=getF_at hI.sorted hf
      unfold getB
      rw [getF_set hI.sorted h2 (g:={ f with sy:=f.b.length }) rfl]
      split
      · rename_i e;rw [e,getF_key hf,hf];rfl
      · rfl
theorem remove_touch {m:DM}(hI:DInv m) (nm:ByteArray):Touch m (removeM m nm).1 fun k=>k≠nm.toList:=by
  cases hd:m.down with
  | true=>rw [show removeM m nm=(m,10) from by unfold removeM;exact on_down hd _ _];exact Touch.refl hI _
  | false=>
    cases hf:getF m.fs nm.toList with
    | none=>rw [remove_none hI hd hf];exact Touch.refl hI _
    | some f=>
      refine touch_of (remove_inv hI nm) hd (remove_or hI hd hf) fun k hk=>?_
      obtain ⟨h1,h2⟩:=getF_at hI.sorted hf
      unfold getB
      rw [getF_erase hI.sorted h2,if_neg (by rw [getF_key hf];exact hk)]
theorem remove_code {m:DM}{nm:ByteArray}(hI:DInv m) (h:(getF m.fs nm.toList).isSome=true∨m.down=true) (he:(removeM m nm).2≠0):(removeM m nm).2=10:=by
  cases hd:m.down with
  | true=>rw [show removeM m nm=(m,10) from by unfold removeM;exact on_down hd _ _]
  | false=>
    rcases h with h | h
    · obtain ⟨f,hf⟩:=Option.isSome_iff_exists.1 h
      rcases remove_or hI hd hf with e | e
      · rw [e.2]
      · exact absurd e.err he
    · rw [hd] at h;cases h
theorem sync_code {m:DM}{nm:ByteArray}(hI:DInv m) (h:(getF m.fs nm.toList).isSome=true∨m.down=true) (he:(syncM m nm).2≠0):(syncM m nm).2=10:=by
  cases hd:m.down with
  | true=>rw [show syncM m nm=(m,10) from by unfold syncM;exact on_down hd _ _]
  | false=>
    rcases h with h | h
    · obtain ⟨f,hf⟩:=Option.isSome_iff_exists.1 h
      rcases sync_or hI hd hf with e | e
      · rw [e.2]
      · exact absurd e.err he
    · rw [hd] at h;cases h
theorem trunc_touch {m:DM}(hI:DInv m) (nm:ByteArray) (n:Int):Touch m (truncM m nm n).1 fun k=>k≠nm.toList:=by
  cases hd:m.down with
  | true=>rw [show truncM m nm n=(m,10) from by unfold truncM;exact on_down hd _ _];exact Touch.refl hI _
  | false=>
    cases hf:getF m.fs nm.toList with
    | none=>
      have:truncM m nm n=(m,6):=by unfold truncM onFile;rw [if_neg (by rw [hd];decide),if_pos (by rw [gone_none hI hf];rfl)]
      rw [this];exact Touch.refl hI _
    | some f=>
      obtain ⟨h1,h2⟩:=getF_at hI.sorted hf
      by_cases hc:n<0∨n>(f.b.length:Int)
      · have:truncM m nm n=(m,3):=by
          unfold truncM onFile
          rw [if_neg (by rw [hd];decide),if_neg (by rw [h1];decide),getF_getD hI.sorted hf]
          simp only [if_pos hc]
        rw [this];exact Touch.refl hI _
      · refine touch_of (trunc_inv hI nm n) hd (trunc_or hI hd hf (by omega) (by omega)) fun k hk=>?_
        exact getB_set hI.sorted h2 (g:={ f with b:=f.b.take n.toNat,sy:=if n<f.sy then n else f.sy }) rfl (by rw [getF_key hf];exact hk)
theorem append_touch {m:DM}(hI:DInv m) (nm:ByteArray) (b:List UInt8):Touch m (appendM m nm b).1 fun k=>k≠nm.toList:=by
  cases hn:namedB nm with
  | false=>
    have:appendM m nm b=(m,8):=by unfold appendM;rw [if_pos (by rw [hn];rfl)]
    rw [this];exact Touch.refl hI _
  | true=>
    cases hd:m.down with
    | true=>
      have:appendM m nm b=(m,10):=by unfold appendM;rw [if_neg (by rw [hn];decide),if_pos hd]
      rw [this];exact Touch.refl hI _
    | false=>
      rcases append_or hI hn hd (b:=b) with ⟨e,_⟩ | e | ⟨e,_⟩
      · rw [e];exact Touch.refl hI _
      · exact touch_of (fs:=m.fs) (append_inv hI nm b) hd (.inl e) fun _ _=>rfl
      · refine touch_of (append_inv hI nm b) hd (.inr e) fun k hk=>?_
        unfold getB;rw [getF_app hI.sorted,if_neg hk]
theorem drop_touch {m:DM}(hI:DInv m) (nm:ByteArray):Touch m (dropM m nm).1 fun k=>k≠nm.toList:=by
  have:=remove_touch hI nm
  unfold dropM
  split<;>exact this
theorem rename_touch {m:DM}(hI:DInv m) (nm to:ByteArray):Touch m (renameM m nm to).1 fun k=>k≠nm.toList∧k≠to.toList:=by
  have hinv:=rename_inv hI nm to
  cases hn:namedB to with
  | false=>
    have:renameM m nm to=(m,8):=by unfold renameM;rw [if_pos (by rw [hn];rfl)]
    rw [this];exact Touch.refl hI _
  | true=>
    have h0:renameM m nm to=onFile m nm fun i f m=>spent m fun m=>{ m with fs:=moveL m.fs i f to }:=by unfold renameM;rw [if_neg (by rw [hn];decide)]
    cases hd:m.down with
    | true=>rw [h0,on_down hd];exact Touch.refl hI _
    | false=>
      cases hf:getF m.fs nm.toList with
      | none=>
        have:renameM m nm to=(m,6):=by rw [h0];unfold onFile;rw [if_neg (by rw [hd];decide),if_pos (by rw [gone_none hI hf];rfl)]
        rw [this];exact Touch.refl hI _
      | some f=>
        obtain ⟨h1,h2⟩:=getF_at hI.sorted hf
        have h3:renameM m nm to=spent m fun m'=>{ m' with fs:=moveL m'.fs (findL m.fs nm.toList) f to }:=by
          rw [h0];unfold onFile
          rw [if_neg (by rw [hd];decide),if_neg (by rw [h1];decide),getF_getD hI.sorted hf]
        have h4:=spent_or m fun fs=>moveL fs (findL m.fs nm.toList) f to
        rw [←h3] at h4
        refine touch_of hinv hd h4 fun k hk=>?_
        have hse:Sorted (m.fs.eraseIdx (findL m.fs nm.toList)):=sorted_erase hI.sorted
        have he:getB (m.fs.eraseIdx (findL m.fs nm.toList)) k=getB m.fs k:=by
          unfold getB;rw [getF_erase hI.sorted h2,if_neg (by rw [getF_key hf];exact hk.1)]
        unfold moveL
        simp only
        split
        · rename_i ht
          rw [getF_there hse] at ht
          obtain ⟨f2,hf2⟩:=Option.isSome_iff_exists.1 ht
          obtain ⟨q1,q2⟩:=getF_at hse hf2
          rw [getB_set hse q2 (g:={ f with nm:=to }) (getF_key hf2).symm (by rw [getF_key hf2];exact hk.2),he]
        · rename_i ht
          have ht':thereL (m.fs.eraseIdx (findL m.fs nm.toList)) ({ f with nm:=to }:DF).key=false:=by
            show thereL _ to.toList=false
            simpa using ht
          have:=getF_ins hse (g:={ f with nm:=to }) ht' k
          unfold getB at he ⊢
          rw [show findL (m.fs.eraseIdx (findL m.fs nm.toList)) to.toList=findL (m.fs.eraseIdx (findL m.fs nm.toList)) ({ f with nm:=to }:DF).key from rfl,this,if_neg (show k≠({ f with nm:=to }:DF).key from hk.2),he]
end Go.Cx
namespace Go.Cx
open Go Go.Cf
set_option linter.unusedVariables false
set_option maxRecDepth 100000
def HasF (m:DM) (s:Sg):Prop:=∃ b,getB m.fs (fK s.n)=some b∧s.size≤(b.length:Int)
structure Ldev (m:DM) (l:LM):Prop where
  inv:DInv m
  log:LInv l
  cur:l.curN≤999999999999
  safe:l.segs=[]→l.safe=l.next
  files:m.down=false→∀ s∈l.segs,HasF m s
  ord:∃ n0:Int,∀ (i:Nat) s,l.segs[i]? = some s→s.n=n0+i
theorem HasF.some {m:DM}{s:Sg}(h:HasF m s):(getF m.fs (fK s.n)).isSome=true:=by
  obtain ⟨b,h,_⟩:=h
  unfold getB at h
  cases e:getF m.fs (fK s.n) with
  | none=>rw [e] at h;cases h
  | some f=>rfl
theorem HasF.touch {m r:DM}{S:Key→Prop}{s:Sg}(h:HasF m s) (t:Touch m r S) (hd:r.down=false) (hs:S (fK s.n)):HasF r s:=by
  obtain ⟨b,h1,h2⟩:=h
  exact ⟨b,by rw [(t.keep hd).2 _ hs];exact h1,h2⟩
theorem Ldev.touch {m r:DM}{l:LM}{S:Key→Prop}(h:Ldev m l) (t:Touch m r S) (hS:∀ s∈l.segs,S (fK s.n)):Ldev r l:=
  ⟨t.inv,h.log,h.cur,h.safe,fun hd s hs=>(h.files (t.keep hd).1 s hs).touch t hd (hS s hs),h.ord⟩
theorem Ldev.relog {m:DM}{l l':LM}(h:Ldev m l) (hs:l'.segs=l.segs) (hn:l'.n=l.n) (hf:l'.first=l.first) (h1:0≤l'.safe∧l'.safe≤4398046511104) (h2:l.segs=[]→l'.safe=l'.next):Ldev m l':=by
  obtain ⟨n0,ho⟩:=h.ord
  refine ⟨h.inv,⟨by rw [hn];exact h.log.n,by rw [hf];exact h.log.first,by rw [hs];exact h.log.segs,by rw [hs];exact h.log.few,h1,by rw [hs];exact h.log.chain⟩,?_,by rw [hs];exact h2,by rw [hs];exact h.files,n0,by rw [hs];exact ho⟩
  have:=h.cur
  unfold LM.curN LM.cur at this ⊢
  rw [hs,hn];exact this
theorem cur_some {l:LM}(h:l.segs≠[]):∃ s,l.segs.getLast? = some s∧s∈l.segs∧l.curN=s.n∧(l.cur.map Sg.n).getD 0=s.n:=by
  cases hc:l.segs.getLast? with
  | none=>exact absurd (List.getLast?_eq_none_iff.1 hc) h
  | some s=>exact ⟨s,rfl,List.mem_of_getLast? hc,by unfold LM.curN LM.cur;rw [hc],by unfold LM.cur;rw [hc];rfl⟩
theorem Ldev.sync {m:DM}{l:LM}(h:Ldev m l):Ldev (syncL m l).1 (syncL m l).2.1∧((syncL m l).2.2≠0→(syncL m l).2.2=10)∧Touch m (syncL m l).1 (fun _=>True):=by
  unfold syncL
  cases hd:m.down with
  | true=>rw [if_pos rfl];exact ⟨h,fun _=>rfl,Touch.refl h.inv _⟩
  | false=>
    rw [if_neg (by decide)]
    by_cases hs:l.safe=l.next
    · rw [if_pos hs];exact ⟨h,fun e=>absurd rfl e,Touch.refl h.inv _⟩
    · rw [if_neg hs]
      obtain ⟨s,h1,h2,h3,h4⟩:=cur_some (fun e=>hs (h.safe e))
      rw [h4]
      have ht:=sync_touch h.inv (fN s.n)
      have hL:=h.touch ht fun _ _=>trivial
      have hc:=fun e=>sync_code h.inv (nm:=fN s.n) (.inl (h.files hd s h2).some) e
      dsimp only
      split
      · rename_i he;exact ⟨hL,fun _=>hc he,ht⟩
      · have hnx:=h.log.next
        exact ⟨hL.relog (l':={ l with safe:=l.next }) rfl rfl rfl ⟨by simp only;omega,by simp only;omega⟩ (fun e=>rfl),fun e=>absurd rfl e,ht⟩
theorem len_of {m:DM}(hI:DInv m) {k:Key}{b:List UInt8}(h:getB m.fs k=some b):b.length≤16777216:=by
  unfold getB at h
  obtain ⟨f,hf,rfl⟩:=Option.map_eq_some_iff.1 h
  obtain ⟨h1,h2⟩:=getF_at hI.sorted hf
  have:=usedN_erase h2
  have h3:=hI.used
  have h4:=hI.room
  omega
theorem few_of {m:DM}{l:List Sg}(hI:DInv m) {n0:Int}(h0:1≤n0) (ho:∀ (i:Nat) s,l[i]? = some s→s.n=n0+i) (hf:∀ s∈l,HasF m s):l.length≤64:=by
  obtain ⟨k,rfl⟩:=Int.eq_ofNat_of_zero_le (show 0≤n0 by omega)
  have:=keys_few' (fs:=m.fs) (n0:=k) (by omega) (n:=l.length) fun i hi=>by
    have hg:=List.getElem?_eq_getElem hi
    have h1:=ho i _ hg
    have h2:=(hf _ (List.getElem_mem hi)).some
    rw [h1] at h2
    exact h2
  have:=hI.len
  omega
theorem getB_app {fs:List DF}(hs:Sorted fs) (nm:ByteArray) (b:List UInt8):∃ c,getB (appFs fs nm b) nm.toList=some (c++b)∧∀ d,getB fs nm.toList=some d→d=c:=by
  unfold getB
  rw [getF_app hs,if_pos rfl]
  refine ⟨_,rfl,fun d hd=>?_⟩
  obtain ⟨f,hf,rfl⟩:=Option.map_eq_some_iff.1 hd
  rw [hf];rfl
theorem addL_app (a:List Sg) (x:Sg) (p:List UInt8):addL (a++[x]) p=a++[{ x with size:=x.size+(frameN p).length,ps:=x.ps++[p] }]:=by
  unfold addL;simp
theorem Ldev.append {m:DM}{l:LM}(h:Ldev m l) (p:List UInt8):Ldev (appendL m l p).1 (appendL m l p).2.1:=by
  obtain ⟨g1,g2,g3⟩:=h.sync
  obtain ⟨k1,k2,k3⟩:=syncL_log m l
  unfold appendL
  cases hd:m.down with
  | true=>rw [if_pos rfl];exact h
  | false=>
    rw [if_neg (by decide)]
    by_cases hlen:p.length>1024
    · rw [if_pos hlen];exact h
    rw [if_neg hlen]
    by_cases hst:l.next≥1099511627776∨(l.full=true∧l.curN=lastN)
    · rw [if_pos hst];exact h
    rw [if_neg hst]
    -- the device and log behind a Sync
    obtain ⟨y,hy,gy,ky,nyE,fyE,ty⟩:∃ y:DM×LM×Int,(if l.full then syncL m l else (m,l,0))=y∧Ldev y.1 y.2.1∧y.2.1.segs=l.segs∧y.2.1.n=l.n∧y.2.1.first=l.first∧Touch m y.1 (fun _=>True):=by
      cases l.full with
      | true=>exact ⟨_,rfl,g1,k1,k2,k3,g3⟩
      | false=>exact ⟨_,rfl,h,rfl,rfl,rfl,Touch.refl h.inv _⟩
    rw [hy]
    dsimp only
    by_cases he:y.2.2≠0
    · rw [if_pos he];exact gy
    rw [if_neg he]
    generalize hn:(if l.full=true then l.curN+1 else l.curN)=n at *
    have hcur:=h.cur
    have hn1:n≤999999999999:=by
      have:lastN=999999999999:=rfl
      rw [←hn];split
      · rename_i hf
        have hne:l.curN≠lastN:=fun e=>hst (.inr ⟨hf,e⟩)
        omega
      · omega
    have hcn:1≤l.curN:=by
      by_cases hs:l.segs=[]
      · have:=h.log.n
        unfold LM.curN LM.cur;rw [hs];exact this.1
      · obtain ⟨s,_,h2,h3,_⟩:=cur_some hs
        rw [h3];exact (h.log.segs s h2).1.1
    have hn0:1≤n:=by rw [←hn];split<;>omega
    obtain ⟨N,hN⟩:=Int.eq_ofNat_of_zero_le (show 0≤n by omega)
    have hnamed:namedB (fN n)=true:=by rw [hN];exact fN_named (by omega) (by omega)
    have hat:=append_touch gy.inv (fN n) (frameN p)
    -- what the numbers of the segments are
    obtain ⟨n0,ho⟩:=h.ord
    have hfresh:l.full=true→∀ s∈l.segs,fK s.n≠fK n:=by
      intro hf s hs e
      obtain ⟨i,hi⟩:=List.mem_iff_getElem?.1 hs
      have hl:=(List.getElem?_eq_some_iff.1 hi).1
      obtain ⟨z,z1,z2,z3,_⟩:=cur_some (List.ne_nil_of_mem hs)
      have z4:=ho _ z (getLast_get z1)
      have z5:=ho i s hi
      have z6:=(h.log.segs s hs).1
      rw [if_pos hf] at hn
      obtain ⟨A,hA⟩:=Int.eq_ofNat_of_zero_le (show 0≤s.n by omega)
      rw [hA,hN] at e
      have:=fK_inj (by omega) (by omega) e
      omega
    by_cases ha:(appendM y.1 (fN n) (frameN p)).2≠0
    · rw [if_pos ha]
      -- refused, or the power is off: the log is as it was
      refine ⟨hat.inv,gy.log,gy.cur,gy.safe,fun hd2 s hs=>?_,gy.ord⟩
      cases hyd:y.1.down with
      | true=>have:=(hat.keep hd2).1;rw [hyd] at this;cases this
      | false=>
        rcases append_or gy.inv hnamed hyd (b:=frameN p) with ⟨e,_⟩ | e | ⟨e,_⟩
        · rw [e];exact gy.files hyd s hs
        · rw [e.2] at hd2;cases hd2
        · exact absurd e.err ha
    rw [if_neg ha]
    have hyd:y.1.down=false:=by
      cases hyd:y.1.down with
      | false=>rfl
      | true=>
        have:appendM y.1 (fN n) (frameN p)=(y.1,10):=by unfold appendM;rw [if_neg (by rw [hnamed];decide),if_pos hyd]
        rw [this] at ha;simp at ha
    rcases append_or gy.inv hnamed hyd (b:=frameN p) with ⟨e,_⟩ | e | ⟨e,_,_⟩
    · rw [e] at ha;simp at ha
    · rw [e.2] at ha;simp at ha
    have hfs:=e.files
    have hrI:=append_inv gy.inv (fN n) (frameN p)
    have hrd:(appendM y.1 (fN n) (frameN p)).1.down=false:=by rw [e.down];exact hyd
    generalize (appendM y.1 (fN n) (frameN p)).1=r at *
    obtain ⟨c,hc1,hc2⟩:=getB_app gy.inv.sorted (fN n) (frameN p)
    rw [←hfs] at hc1
    have hclen:=len_of hrI hc1
    rw [List.length_append] at hclen
    have hfl:=frame_len p
    have hnx:=h.log.next
    have hsafe:=gy.log.safe
    -- the segments behind it
    have key:∃ (a:List Sg) (x:Sg),(if l.segs=[]∨l.full=true then l.segs++[⟨n,l.next,0,[]⟩] else l.segs)=a++[x]∧x.n=n∧(∀ s∈a,s∈l.segs∧fK s.n≠fK n)∧(0≤x.first∧x.first≤2199023255552)∧0≤x.size∧x.size≤c.length∧(x.ps.length:Int)≤x.size∧(∀ q∈x.ps,q.length≤1024)∧(∃ n1:Int,1≤n1∧∀ (i:Nat) s,(a++[x])[i]? = some s→s.n=n1+i)∧(∀ (k:Nat) s s',(a++[x])[k]? = some s→(a++[x])[k+1]? = some s'→s'.first=s.next):=by
      by_cases hnew:l.segs=[]∨l.full=true
      · rw [if_pos hnew]
        refine ⟨l.segs,⟨n,l.next,0,[]⟩,rfl,rfl,fun s hs=>⟨hs,?_⟩,⟨by simp only;omega,by simp only;omega⟩,by simp,by simp,by simp,by simp,?_,chain_snoc h.log.chain rfl⟩
        · rcases hnew with e2 | e2
          · rw [e2] at hs;cases hs
          · exact hfresh e2 s hs
        · by_cases hs:l.segs=[]
          · refine ⟨n,hn0,fun i s hi=>?_⟩
            rw [hs] at hi
            cases i with
            | zero => obtain rfl : (⟨n, l.next, 0, []⟩ : Sg) = s := by simpa using hi
                      simp
            | succ i=>simp at hi
          · have hf:l.full=true:=hnew.resolve_left hs
            rw [if_pos hf] at hn
            obtain ⟨z,z1,z2,z3,_⟩:=cur_some hs
            have z4:=ho _ z (getLast_get z1)
            have hpos:=List.length_pos_iff.2 hs
            have h00:=ho 0 _ (List.getElem?_eq_getElem hpos)
            have h01:=(h.log.segs _ (List.getElem_mem hpos)).1.1
            refine ⟨n0,by omega,fun i s hi=>?_⟩
            by_cases hil:i<l.segs.length
            · rw [List.getElem?_append_left hil] at hi;exact ho i s hi
            · have hl:=(List.getElem?_eq_some_iff.1 hi).1
              simp at hl
              have:i=l.segs.length:=by omega
              rw [List.getElem?_append_right (by omega),this,Nat.sub_self] at hi
              obtain rfl:(⟨n,l.next,0,[]⟩:Sg)=s:=by simpa using hi
              simp only
              omega
      · rw [if_neg hnew]
        have hs:l.segs≠[]:=fun e2=>hnew (.inl e2)
        have hf:¬ l.full=true:=fun e2=>hnew (.inr e2)
        rw [if_neg hf] at hn
        obtain ⟨a,x,hax⟩:=(List.eq_nil_or_concat l.segs).resolve_left hs
        rw [List.concat_eq_append] at hax
        obtain ⟨z,z1,z2,z3,_⟩:=cur_some hs
        have hzx:z=x:=by rw [hax] at z1;simpa using z1.symm
        subst hzx
        have hzb:=h.log.segs z z2
        have hpos:=List.length_pos_iff.2 hs
        have h00:=ho 0 _ (List.getElem?_eq_getElem hpos)
        have h01:=(h.log.segs _ (List.getElem_mem hpos)).1.1
        refine ⟨a,z,hax,by omega,fun s hs2=>⟨by rw [hax];simp [hs2],fun e2=>?_⟩,hzb.2.1,hzb.2.2.1.1,?_,hzb.2.2.2.1,hzb.2.2.2.2,⟨n0,by omega,fun i s hi=>ho i s (by rw [hax];exact hi)⟩,by rw [←hax];exact h.log.chain⟩
        · obtain ⟨i,hi⟩:=List.mem_iff_getElem?.1 hs2
          have hil:=(List.getElem?_eq_some_iff.1 hi).1
          have q1:=ho i s (by rw [hax,List.getElem?_append_left hil];exact hi)
          have q2:=ho a.length z (by rw [hax];simp)
          have q3:=(h.log.segs s (by rw [hax];simp [hs2])).1
          obtain ⟨A,hA⟩:=Int.eq_ofNat_of_zero_le (show 0≤s.n by omega)
          rw [hA,hN] at e2
          have:=fK_inj (by omega) (by omega) e2
          omega
        · obtain ⟨d,hd1,hd2⟩:=(h.files hd z z2)
          have hyf:=(ty.keep hyd).2 (fK z.n) trivial
          rw [show z.n=n by omega] at hyf hd1
          rw [hd1] at hyf
          rw [←hc2 d hyf];exact hd2
    obtain ⟨a,x,hax,hxn,hxa,hx1,hx2,hx3,hx4,hx5,⟨n1,hn1',ho1⟩,hch⟩:=key
    rw [hax,addL_app]
    generalize hx':({ x with size:=x.size+(frameN p).length,ps:=x.ps++[p] }:Sg)=x' at *
    have x'n:x'.n=n:=by rw [←hx'];exact hxn
    have x'f:x'.first=x.first:=by rw [←hx']
    have x's:x'.size=x.size+(frameN p).length:=by rw [←hx']
    have x'p:x'.ps=x.ps++[p]:=by rw [←hx']
    have hord:∀ (i:Nat) s,(a++[x'])[i]? = some s→s.n=n1+i:=fun i s hi=>by
      by_cases hil:i<a.length
      · rw [List.getElem?_append_left hil] at hi
        exact ho1 i s (by rw [List.getElem?_append_left hil];exact hi)
      · have hl:=(List.getElem?_eq_some_iff.1 hi).1
        simp at hl
        have h3:i=a.length:=by omega
        rw [List.getElem?_append_right (by omega),h3,Nat.sub_self] at hi
        obtain rfl:x'=s:=by simpa using hi
        have:=ho1 a.length x (by simp)
        rw [x'n,←hxn,this,h3]
    have hfiles:∀ s∈a++[x'],HasF r s:=by
      intro s hs
      rcases List.mem_append.1 hs with hs | hs
      · obtain ⟨q1,q2⟩:=hxa s hs
        have hy2:=(h.files hd s q1).touch ty hyd trivial
        exact hy2.touch hat hrd q2
      · obtain rfl:s=x':=by simpa using hs
        refine ⟨_,by rw [x'n];exact hc1,?_⟩
        rw [x's,List.length_append];omega
    refine ⟨hrI,⟨by show 1≤y.2.1.n∧_;rw [nyE];exact h.log.n,by show 0≤y.2.1.first∧_;rw [fyE];exact h.log.first,fun s hs=>?_,few_of hrI hn1' hord hfiles,hsafe,?_⟩,?_,fun e2=>by simp at e2,fun _=>hfiles,n1,hord⟩
    · rcases List.mem_append.1 hs with hs | hs
      · exact h.log.segs s (hxa s hs).1
      · obtain rfl:s=x':=by simpa using hs
        refine ⟨by rw [x'n];omega,by rw [x'f];exact hx1,by rw [x's];omega,by rw [x's,x'p,List.length_append,List.length_singleton];omega,fun q hq=>?_⟩
        rw [x'p] at hq
        rcases List.mem_append.1 hq with hq | hq
        · exact hx5 q hq
        · obtain rfl:q=p:=by simpa using hq
          omega
    · intro k s s' h1 h2
      have hk:=(List.getElem?_eq_some_iff.1 h2).1
      simp at hk
      rw [List.getElem?_append_left (by omega)] at h1
      have q1:(a++[x])[k]? = some s:=by rw [List.getElem?_append_left (by omega)];exact h1
      by_cases e2:k+1<a.length
      · rw [List.getElem?_append_left e2] at h2
        exact hch k s s' q1 (by rw [List.getElem?_append_left e2];exact h2)
      · have h3:k+1=a.length:=by omega
        rw [List.getElem?_append_right (by omega),h3,Nat.sub_self] at h2
        obtain rfl:x'=s':=by simpa using h2
        rw [x'f]
        exact hch k s x q1 (by rw [List.getElem?_append_right (by omega),h3,Nat.sub_self];rfl)
    · unfold LM.curN LM.cur
      simp only [List.getLast?_concat]
      rw [x'n];exact hn1
end Go.Cx
namespace Go.Cx
open Go Go.Cf
set_option linter.unusedVariables false
set_option maxRecDepth 100000
theorem lay_touch {m:DM}(hI:DInv m) (s:Sg):Touch m (layM m s).1 fun k=>k≠newN.toList∧k≠headN.toList:=by
  have t1:=(drop_touch hI newN).mono (T:=fun k=>k≠newN.toList∧k≠headN.toList) fun k h=>h.1
  unfold layM
  dsimp only
  split
  · exact t1
  have t2:=t1.trans ((append_touch t1.inv newN (frameN (be8 s.n.toNat++be8 s.first.toNat))).mono (T:=fun k=>k≠newN.toList∧k≠headN.toList) fun k h=>h.1)
  split
  · exact t2
  have t3:=t2.trans ((sync_touch t2.inv newN).mono (T:=fun k=>k≠newN.toList∧k≠headN.toList) fun k h=>trivial)
  split
  · exact t3
  exact t3.trans (rename_touch t3.inv newN headN)
theorem gone_spec2:∀ (L:List Sg) (m:DM),DInv m→(m.down=false→∀ s∈L,HasF m s)→L.Pairwise (fun a b=>fK a.n≠fK b.n) →
    Touch m (goneM L m).1 (fun k=>∀ s∈L,k≠fK s.n)∧((goneM L m).2≠0→(goneM L m).2=10)
  | [],m,hI,_,_=>⟨Touch.refl hI _,fun e=>absurd rfl e⟩
  | s::L,m,hI,hf,hp=>by
    have hp':=List.pairwise_cons.1 hp
    have hc:(removeM m (fN s.n)).2≠0→(removeM m (fN s.n)).2=10:=by
      intro e
      cases hd:m.down with
      | true=>exact remove_code hI (.inr hd) e
      | false=>exact remove_code hI (.inl (hf hd s List.mem_cons_self).some) e
    have t:=remove_touch hI (fN s.n)
    rw [goneM]
    split
    · rename_i he
      exact ⟨t.mono fun k h=>h s List.mem_cons_self,fun _=>hc he⟩
    · obtain ⟨g1,g2⟩:=gone_spec2 L (removeM m (fN s.n)).1 t.inv (fun hd s' hs'=>(hf (t.keep hd).1 s' (List.mem_cons_of_mem _ hs')).touch t hd (fun e=>hp'.1 s' hs' e.symm)) hp'.2
      exact ⟨(t.mono fun k h=>h s List.mem_cons_self).trans (g1.mono fun k h s' hs'=>h s' (List.mem_cons_of_mem _ hs')),g2⟩
theorem gone_down:∀ (L:List Sg) (m:DM),DInv m→(m.down=false→∀ s∈L,HasF m s)→L.Pairwise (fun a b=>fK a.n≠fK b.n)→(goneM L m).2≠0→(goneM L m).1.down=true
  | [],m,_,_,_,e=>absurd rfl e
  | s::L,m,hI,hf,hp,e=>by
    have hp':=List.pairwise_cons.1 hp
    have t:=remove_touch hI (fN s.n)
    rw [goneM] at e ⊢
    split
    · rename_i he
      cases hd:m.down with
      | true=>rw [show removeM m (fN s.n)=(m,10) from by unfold removeM;exact on_down hd _ _];exact hd
      | false=>
        obtain ⟨f,hf2⟩:=Option.isSome_iff_exists.1 (hf hd s List.mem_cons_self).some
        rcases remove_or hI hd hf2 with e2 | e2
        · rw [e2.2]
        · exact absurd e2.err he
    · rename_i he
      rw [if_neg he] at e
      exact gone_down L (removeM m (fN s.n)).1 t.inv (fun hd s' hs'=>(hf (t.keep hd).1 s' (List.mem_cons_of_mem _ hs')).touch t hd (fun e=>hp'.1 s' hs' e.symm)) hp'.2 e
theorem Ldev.keys {m:DM}{l:LM}(h:Ldev m l):l.segs.Pairwise (fun a b=>fK a.n≠fK b.n):=by
  obtain ⟨n0,ho⟩:=h.ord
  refine List.pairwise_iff_getElem.2 fun i j hi hj hij e=>?_
  have h1:=ho i _ (List.getElem?_eq_getElem hi)
  have h2:=ho j _ (List.getElem?_eq_getElem hj)
  have b1:=(h.log.segs _ (List.getElem_mem hi)).1
  have b2:=(h.log.segs _ (List.getElem_mem hj)).1
  obtain ⟨A,hA⟩:=Int.eq_ofNat_of_zero_le (show 0≤l.segs[i].n by omega)
  obtain ⟨C,hC⟩:=Int.eq_ofNat_of_zero_le (show 0≤l.segs[j].n by omega)
  rw [hA,hC] at e
  have:=fK_inj (by omega) (by omega) e
  omega
theorem drops_le (l:LM) (to keep:Int):dropsL l to keep≤l.segs.length - 1:=by
  unfold dropsL
  refine Nat.le_trans (List.takeWhile_sublist _).length_le ?_
  rw [List.length_take];omega
theorem Ldev.gone {m:DM}{l:LM}(h:Ldev m l) (to keep:Int) (sg:Sg):(goneM (l.segs.take (dropsL l to keep)) (layM m sg).1).2≠0→(goneM (l.segs.take (dropsL l to keep)) (layM m sg).1).2=10:=by
  have t:=lay_touch h.inv sg
  have hl:=h.touch t fun s _=>⟨fK_new s.n,fK_head s.n⟩
  exact (gone_spec2 _ _ t.inv (fun hd s hs=>hl.files hd s (List.mem_of_mem_take hs)) (h.keys.sublist (List.take_sublist _ _))).2
theorem Ldev.trim {m:DM}{l:LM}(h:Ldev m l) (to keep:Int):Ldev (trimL m l to keep).1 (trimL m l to keep).2.1:=by
  have hinv:=trim_inv h.log m to keep
  unfold trimL at hinv ⊢
  split
  · exact h
  rename_i hd
  rw [if_neg hd] at hinv
  split
  · exact h
  rename_i hk
  rw [if_neg hk] at hinv
  dsimp only at hinv ⊢
  have hkl:=drops_le l to keep
  generalize hkE:dropsL l to keep=k at *
  obtain ⟨sg,hsg⟩:∃ sg,l.segs[k]? = some sg:=⟨_,List.getElem?_eq_getElem (by omega)⟩
  rw [hsg] at hinv ⊢
  simp only [Option.getD_some] at hinv ⊢
  have t:=lay_touch h.inv sg
  have hl:=h.touch t fun s _=>⟨fK_new s.n,fK_head s.n⟩
  split
  · exact hl
  rename_i he
  rw [if_neg he] at hinv
  obtain ⟨t2,_⟩:=gone_spec2 (l.segs.take k) (layM m sg).1 t.inv (fun hd s hs=>hl.files hd s (List.mem_of_mem_take hs)) (h.keys.sublist (List.take_sublist _ _))
  split
  · rename_i hg
    -- the power failed amid the files' going
    refine ⟨t2.inv,h.log,h.cur,h.safe,fun hd2 s hs=>?_,h.ord⟩
    have:(goneM (l.segs.take k) (layM m sg).1).1.down=true:=by
      have h10:=h.gone to keep sg
      rw [hkE] at h10
      exact gone_down _ _ t.inv (fun hd s hs=>hl.files hd s (List.mem_of_mem_take hs)) (h.keys.sublist (List.take_sublist _ _)) hg
    rw [this] at hd2;cases hd2
  · rename_i hg
    rw [if_neg hg] at hinv
    obtain ⟨n0,ho⟩:=h.ord
    have hlast:({ l with segs:=l.segs.drop k }:LM).curN=l.curN:=by
      unfold LM.curN LM.cur
      simp only
      rw [List.getLast?_drop,if_neg (by omega)]
    refine ⟨t2.inv,hinv,by rw [hlast];exact h.cur,fun e=>?_,fun hd2 s hs=>?_,n0+k,fun i s hi=>?_⟩
    · have:=congrArg List.length (show l.segs.drop k=[] from e)
      rw [List.length_drop,List.length_nil] at this;omega
    · have hs1:s∈l.segs:=List.mem_of_mem_drop hs
      refine (hl.files (t2.keep hd2).1 s hs1).touch t2 hd2 fun s' hs' e=>?_
      obtain ⟨i,hi⟩:=List.mem_iff_getElem?.1 hs
      obtain ⟨j,hj⟩:=List.mem_iff_getElem?.1 hs'
      rw [List.getElem?_drop] at hi
      have hjl:=(List.getElem?_eq_some_iff.1 hj).1
      rw [List.length_take] at hjl
      rw [List.getElem?_take_of_lt (by omega)] at hj
      have hil:=(List.getElem?_eq_some_iff.1 hi).1
      have:=List.pairwise_iff_getElem.1 h.keys j (k+i) (by omega) hil (by omega)
      rw [(List.getElem?_eq_some_iff.1 hi).2,(List.getElem?_eq_some_iff.1 hj).2] at this
      exact this e.symm
    · rw [List.getElem?_drop] at hi
      have:=ho _ s hi
      rw [this];omega
end Go.Cx
namespace Go.Cx
open Go Go.Cf
set_option linter.unusedVariables false
set_option maxRecDepth 100000
theorem mend_touch {m:DM}(hI:DInv m) (n:Int):Touch m (mendM m n).1 fun k=>k≠fK n:=by
  have t1:Touch m (if (scanN (readM m (fN n)).1).2<(readM m (fN n)).1.length then truncM m (fN n) (scanN (readM m (fN n)).1).2 else (m,0)).1 fun k=>k≠fK n:=by
    split
    · exact trunc_touch hI _ _
    · exact Touch.refl hI _
  unfold mendM
  dsimp only
  generalize (if (scanN (readM m (fN n)).1).2<(readM m (fN n)).1.length then truncM m (fN n) (scanN (readM m (fN n)).1).2 else (m,0))=T at t1 ⊢
  split
  · exact t1
  · exact t1.trans ((sync_touch t1.inv (fN n)).mono fun _ _=>trivial)
theorem mend_getB {m:DM}(hI:DInv m) (hd:m.down=false) {n:Int}(ht:thereL m.fs (fN n).toList=true) (h:(mendM m n).2=0) :
    ∃ c,getB (mendM m n).1.fs (fK n)=some c∧(scanN (readM m (fN n)).1).2≤c.length:=by
  have hs:=ht
  rw [getF_there hI.sorted] at hs
  obtain ⟨f,hf⟩:=Option.isSome_iff_exists.1 hs
  have hu:=scan_len (readM m (fN n)).1
  have hr:=read_some hI hf
  have hal:=mend_alive hI hd ht h
  unfold mendM at h hal ⊢
  simp only at h hal ⊢
  by_cases hc:(scanN (readM m (fN n)).1).2<(readM m (fN n)).1.length
  · rw [if_pos hc] at h hal ⊢
    have hfl:(readM m (fN n)).1=f.b:=by rw [hr]
    rw [hfl] at h hal hu hc ⊢
    rcases trunc_or hI hd hf (n:=((scanN f.b).2:Int)) (by omega) (by omega) with e | e
    · rw [e.2] at h;simp at h
    · rw [if_neg (by rw [e.err];decide)] at h hal ⊢
      have t2:=sync_touch (trunc_inv hI (fN n) ((scanN f.b).2:Int)) (fN n)
      rw [(t2.keep hal).2 _ trivial,e.files]
      obtain ⟨h1,h2⟩:=getF_at hI.sorted hf
      unfold getB
      rw [getF_set hI.sorted h2 (g:={ f with b:=f.b.take ((scanN f.b).2:Int).toNat,sy:=if ((scanN f.b).2:Int)<f.sy then ((scanN f.b).2:Int) else f.sy }) rfl,if_pos (getF_key hf).symm]
      refine ⟨_,rfl,?_⟩
      simp only [List.length_take];omega
  · rw [if_neg hc,if_neg (by simp)] at h hal ⊢
    simp only at h hal ⊢
    have t2:=sync_touch hI (fN n)
    rw [(t2.keep hal).2 _ trivial]
    unfold getB
    rw [show getF m.fs (fK n)=some f from hf]
    exact ⟨f.b,rfl,by rw [show (readM m (fN n)).1=f.b by rw [hr]] at hu ⊢;exact hu⟩
theorem readL_files {n0 f0:Int}(h0:1≤n0):∀ (fuel:Nat) (m:DM) (l:LM) (m2:DM) (l2:LM),ReadI n0 f0 m l→m.down=false→(∀ s∈l.segs,HasF m s)→readL fuel m (n0+l.segs.length) l=(m2,l2,0) →
    ReadI n0 f0 m2 l2∧m2.down=false∧(∀ s∈l2.segs,HasF m2 s)∧m2.room=m.room
  | 0,m,l,m2,l2,hR,hd,hf,h=>by
    rw [readL] at h
    cases h
    exact ⟨hR,hd,hf,rfl⟩
  | fuel+1,m,l,m2,l2,hR,hd,hf,h=>by
    rw [readL] at h
    by_cases hr:(readM m (fN (n0+l.segs.length))).2≠0
    · rw [if_pos hr] at h
      cases h
      exact ⟨hR,hd,hf,rfl⟩
    rw [if_neg hr] at h
    by_cases hm:(mendM m (n0+l.segs.length)).2≠0
    · rw [if_pos hm] at h
      exact absurd (congrArg (fun x:DM×LM×Int=>x.2.2) h) hm
    rw [if_neg hm] at h
    have hth:thereL m.fs (fN (n0+l.segs.length)).toList=true:=by
      cases e:thereL m.fs (fN (n0+l.segs.length)).toList with
      | true=>rfl
      | false=>exact absurd ((read_there m _).2 e) hr
    have hm0:(mendM m (n0+l.segs.length)).2=0:=by simpa using hm
    have hmore:=hR.more h0 (by simpa using hr)
    have hd2:=mend_alive hR.inv hd hth hm0
    have t:=mend_touch hR.inv (n0+l.segs.length)
    obtain ⟨c,hc1,hc2⟩:=mend_getB hR.inv hd hth hm0
    have hf2:∀ s∈l.segs++[⟨n0+l.segs.length,l.next,(scanN (readM m (fN (n0+l.segs.length))).1).2,(scanN (readM m (fN (n0+l.segs.length))).1).1⟩],HasF (mendM m (n0+l.segs.length)).1 s:=by
      intro s hs
      rcases List.mem_append.1 hs with hs | hs
      · refine (hf s hs).touch t hd2 fun e=>?_
        obtain ⟨j,hj⟩:=List.mem_iff_getElem?.1 hs
        have hjl:=(List.getElem?_eq_some_iff.1 hj).1
        have:=(hR.segs j s hj).1
        obtain ⟨A,hA⟩:=Int.eq_ofNat_of_zero_le (show 0≤s.n by omega)
        obtain ⟨C,hC⟩:=Int.eq_ofNat_of_zero_le (show 0≤n0+l.segs.length by omega)
        rw [hA,hC] at e
        have:=fK_inj (by omega) (by omega) e
        omega
      · obtain rfl:=List.mem_singleton.1 hs
        exact ⟨c,hc1,by simp only;omega⟩
    dsimp only at h
    split at h
    · cases h
      exact ⟨hmore,hd2,hf2,t.room⟩
    · have hl:({ l with segs:=l.segs++[⟨n0+l.segs.length,l.next,(scanN (readM m (fN (n0+l.segs.length))).1).2,(scanN (readM m (fN (n0+l.segs.length))).1).1⟩] }:LM).segs.length=l.segs.length+1:=by simp
      obtain ⟨q1,q2,q3,q4⟩:=readL_files h0 fuel (mendM m (n0+l.segs.length)).1 { l with segs:=l.segs++[⟨n0+l.segs.length,l.next,(scanN (readM m (fN (n0+l.segs.length))).1).2,(scanN (readM m (fN (n0+l.segs.length))).1).1⟩] } m2 l2 hmore hd2 hf2 (by rw [hl,show n0+((l.segs.length+1:Nat):Int)=n0+(l.segs.length:Int)+1 by omega];exact h)
      exact ⟨q1,q2,q3,by rw [q4,t.room]⟩
theorem sweep_touch {l:LM}:∀ (nms:List ByteArray) (m:DM),DInv m→Touch m (sweepM l nms m).1 fun k=>∃ s∈l.segs,k=fK s.n
  | [],m,hI=>Touch.refl hI _
  | nm::r,m,hI=>by
    rw [sweepM]
    split
    · exact sweep_touch r m hI
    · rename_i hk
      have t:=(remove_touch hI nm).mono (T:=fun k=>∃ s∈l.segs,k=fK s.n) fun k ⟨s,hs,e⟩ e2=>hk (by
        unfold keepB
        rw [Bool.or_eq_true]
        right
        exact List.any_eq_true.2 ⟨s,hs,by rw [beq_iff_eq,←e,e2]⟩)
      split
      · exact t
      · exact t.trans (sweep_touch r _ t.inv)
theorem sweep_alive {l:LM}:∀ (nms:List ByteArray) (m:DM),DInv m→m.down=false→(sweepM l nms m).2=0→(sweepM l nms m).1.down=false
  | [],m,_,hd,_=>hd
  | nm::r,m,hI,hd,h=>by
    rw [sweepM] at h ⊢
    split
    · rename_i hk;rw [if_pos hk] at h;exact sweep_alive r m hI hd h
    · rename_i hk
      rw [if_neg hk] at h
      split
      · rename_i he;rw [if_pos he] at h;exact absurd h he
      · rename_i he
        rw [if_neg he] at h
        refine sweep_alive r _ (remove_inv hI nm) ?_ h
        cases hf:getF m.fs nm.toList with
        | none=>rw [remove_none hI hd hf] at he;simp at he
        | some f=>
          rcases remove_or hI hd hf with e | e
          · rw [e.2] at he;simp at he
          · rw [e.down,hd]
theorem dec_big2 (n k:Nat) (h:(Lib.decDigits n).length≤k):n<10 ^ k:=by
  induction k generalizing n with
  | zero=>
    have:=dec_len_pos n
    omega
  | succ k ih=>
    by_cases h1:n<10
    · have:10≤10 ^ (k+1):=by rw [Nat.pow_succ];have:=Nat.pow_pos (n:=k) (show 0<10 by decide);omega
      omega
    · rw [dec_step n (by omega),List.length_append,List.length_singleton] at h
      have:=ih (n / 10) (by omega)
      rw [Nat.pow_succ];omega
theorem open_ldev {m:DM}(hI:DInv m) {l:LM}(h:(openM m).2.1=some l):Ldev (openM m).1 l∧(openM m).1.room=m.room∧m.down=false∧(openM m).1.down=false:=by
  have h1:¬ (dropM m newN).2≠0:=fun e=>by rw [open_e1 e] at h;cases h
  have h2:¬ (headM (dropM m newN).1).2.2≠0:=fun e=>by rw [open_e2 h1 e] at h;cases h
  have t0:=drop_touch hI newN
  have hmd:m.down=false:=by
    cases hd:m.down with
    | false=>rfl
    | true=>
      have hr:removeM m newN=(m,10):=by unfold removeM;exact on_down hd _ _
      have hdr:dropM m newN=(m,10):=by unfold dropM;rw [hr];rfl
      rw [hdr] at h1;simp at h1
  have hd1:=drop_alive hI hmd (nm:=newN) (by simpa using h1)
  have hb:=head_bounds (dropM m newN).1 (by simpa using h2)
  have he3:=fun {m' l e} h3 he=>open_e3 (m:=m) h1 h2 (m':=m') (l:=l) (e:=e) h3 he
  have he4:=fun {m' l} h3 {w} hw=>open_e4 (m:=m) h1 h2 (m':=m') (l:=l) h3 (w:=w) hw
  have hIm:=t0.inv
  have hroom:=t0.room
  generalize (dropM m newN).1=m1 at *
  generalize (headM m1).1=n0 at *
  generalize (headM m1).2.1=f0 at *
  obtain ⟨hb1,hb2⟩:=hb
  cases hR:readL 70 m1 n0 ⟨n0,f0,[],0⟩ with
  | mk m' r=>
  obtain ⟨l',e⟩:=r
  by_cases he:e=0
  · subst he
    obtain ⟨q1,q2,q3,q4⟩:=readL_files (n0:=n0) (f0:=f0) hb1.1 70 m1 ⟨n0,f0,[],0⟩ m' l' (ReadI.start hIm hb2) hd1 (fun s hs=>by cases hs) (by simpa using hR)
    have hE:=he4 hR (w:=sweepM l' (m'.fs.map (·.nm)) m') rfl
    have tw:=sweep_touch (l:=l') (m'.fs.map (·.nm)) m' q1.inv
    rw [hE] at h ⊢
    by_cases hw:(sweepM l' (m'.fs.map (·.nm)) m').2≠0
    · rw [if_pos hw] at h;cases h
    · rw [if_neg hw] at h ⊢
      obtain rfl:=Option.some.inj h
      have hL:=q1.linv hb1 hb2
      have hnx:=hL.next
      have hcur:l'.curN≤999999999999:=by
        by_cases hs:l'.segs=[]
        · unfold LM.curN LM.cur;rw [hs]
          show l'.n≤_
          rw [q1.n];exact hb1.2
        · obtain ⟨z,z1,z2,z3,_⟩:=cur_some hs
          obtain ⟨b,hb,_⟩:=q3 z z2
          rw [z3]
          -- a file of that name is there, so the name is a right one
          unfold getB at hb
          obtain ⟨f,hf,_⟩:=Option.map_eq_some_iff.1 hb
          have hnm:=q1.inv.names f (getF_mem hf)
          have hk:f.nm.toList=fK z.n:=getF_key hf
          have hzp:=(hL.segs z z2).1
          obtain ⟨A,hA⟩:=Int.eq_ofNat_of_zero_le (show 0≤z.n by omega)
          unfold namedB at hnm
          simp only [Bool.and_eq_true,decide_eq_true_eq] at hnm
          have hsz:f.nm.size≤16:=by omega
          have hln:f.nm.toList.length=f.nm.size:=by rw [ByteArray.toList_eq,Array.length_toList];rfl
          rw [hk,fK_list,List.length_append,hA,itoa_pos (by omega)] at hln
          have hpl:preL.length=4:=rfl
          have hdl:(Lib.decDigits A).length≤12:=by omega
          have:=dec_big2 A 12 hdl
          omega
      have halive:(sweepM l' (m'.fs.map (·.nm)) m').1.down=false:=sweep_alive _ _ q1.inv q2 (by simpa using hw)
      refine ⟨⟨tw.inv,⟨hL.n,hL.first,hL.segs,hL.few,by simp only;omega,hL.chain⟩,hcur,fun _=>rfl,fun hd s hs=>(q3 s hs).touch tw hd ⟨s,hs,rfl⟩,n0,fun i s hi=>(q1.segs i s hi).1⟩,by rw [tw.room,q4,hroom],hmd,halive⟩
  · rw [he3 hR he] at h;cases h
end Go.Cx
