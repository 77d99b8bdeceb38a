/-
  A log is trimmed.
  The law HistoryExact.
  A request for pieces of files: what is wrong with it; the answer.
  A request's answer.
  The law HistoryExact, walked.
  The law HistoryParts.
  The law HistoryParts, walked.
-/
import Derived.Test.YtifochbabgjhpaaGreatDoorHY
import Derived.Test.YtifochbabgjhpaaGreatDoorFK1
namespace Go.Cx
open Go Go.Cf
set_option linter.unusedVariables false
set_option maxRecDepth 100000
section
variable {B:Base}{As:List HP}
theorem Rename_spec (p:Option Addr) (m:DM) (nm to:ByteArray):Ct Pr F_device_Device_Rename [.pointer p,.string nm,.string to] .one [.int .i64] [DevObj p m] emp
    (fun t Bs=>t.1=(renameM m nm to).2∧Bs=[DevObj p (renameM m nm to).1]):=by
  refine spec1 c_device_Device_Rename fun B _=>?_
  unfold device_Device_Rename
  refine xdev 0 fun hi b s cs hp sf hsn=>?_
  subst hp
  have hinv:=rename_inv hi nm to
  unfold renameM at hinv ⊢
  refine xcl (find_raw b s cs m nm hi.sorted sf hi.len) rdb ?_
  rintro ⟨r,c,_⟩ _ ⟨h1,h2,rfl⟩
  simp only at h1 h2
  subst h1 h2
  refine app2 (ca2 ?_)
  refine xcl (named_spec to) rdb ?_
  rintro ⟨c,_⟩ _ ⟨h1,rfl⟩
  simp only at h1
  subst h1
  refine app0 (ca1 (xif (fun hn=>?_) (fun hn=>?_)))
  · rw [if_pos hn]
    exact xdev_back b s cs hi (xret ⟨rfl,rfl⟩)
  rw [if_neg (by simpa using hn)] at hinv ⊢
  refine xnil (xget (h:=xif (fun hd=>?_) (fun hd=>xif (fun ht=>?_) (fun ht=>?_))))
  · rw [onFile_down hd]
    exact xdev_back b s cs hi (xret ⟨rfl,rfl⟩)
  · rw [onFile_none hd (by simpa using ht)]
    exact xdev_back b s cs hi (xret ⟨rfl,rfl⟩)
  have ht:thereL m.fs nm.toList=true:=by simpa using ht
  rw [onFile_ok hd ht] at hinv ⊢
  obtain ⟨c,f,hc,hf,hgd,e1,e2,e3,e4,hfb,_,_⟩:=on_file (p:=none) hi sf ht
  rw [hgd] at hinv ⊢
  have hlt:=(List.getElem?_eq_some_iff.1 hc).1
  have hltf:=(List.getElem?_eq_some_iff.1 hf).1
  have hlen:=hi.len
  have hcl:=sf.len
  obtain ⟨q1,q2⟩:=spendM_fs m
  refine xnil ?_
  refine xcl (spend_raw b s m hi.left.1 hi.left.2) rdb ?_
  rintro ⟨r,_⟩ _ ⟨hr,rfl⟩
  simp only at hr
  subst hr
  refine app1 (ca1 (xif (fun hsp=>?_) (fun hsp=>?_)))
  · rw [spent_no (by simpa using hsp)] at hinv ⊢
    exact xdev_put 0 0 0 b s cs (spendM m).1 hinv (fun _ h=>by rw [q1];exact h) (xret ⟨rfl,rfl⟩)
  rw [spent_ok (by simpa using hsp)] at hinv ⊢
  simp only [q1] at hinv ⊢
  have hse:=sorted_erase (i:=findL m.fs nm.toList) hi.sorted
  generalize findL m.fs nm.toList=i at *
  refine xnil (xget (h:=?_))
  refine xidxn (h1:=hlt) (h:=fun _ _=>?_)
  refine xgetE hc (h:=?_)
  refine xgetEj hc (h:=?_)
  refine xgetEj hc (h:=xnew fun b1=>xset (h:=xset (h:=xset (h:=xset (h:=xnil (xget (h:=?_)))))))
  rw [wrap_succ _ (by omega)]
  refine xcl (Delete_spec s cs i hlt (by omega)) rdb ?_
  rintro ⟨s',_⟩ _ rfl
  refine app1 (ca1 (xnil (xset (h:=?_))))
  refine xunf 3 [FileR c f,Each FileR (cs.eraseIdx i) (m.fs.eraseIdx i)] (fun g hg=>each_pick hg hc hf) (app2 ?_)
  refine xfact 1 (fun g hg=>sf_of hg) fun sf'=>?_
  have hlen':(m.fs.eraseIdx i).length≤64:=by rw [List.length_eraseIdx,if_pos hltf];omega
  have hcl':=sf'.len
  refine xcl (find_raw b s' (cs.eraseIdx i) { (spendM m).1 with fs:=m.fs.eraseIdx i } to hse sf' hlen') rdb ?_
  rintro ⟨r,cc,_⟩ _ ⟨h1,h2,rfl⟩
  simp only at h1 h2
  subst h1 h2
  refine app2 (ca2 ?_)
  unfold moveL at hinv ⊢
  simp only at hinv ⊢
  refine xjoin (xif (fun hw=>?_) (fun hw=>?_))
  · rw [if_pos hw] at hinv ⊢
    obtain ⟨hg,_⟩:=getD_there (d:=⟨to,[],0⟩) hw
    generalize (m.fs.eraseIdx i).getD (findL (m.fs.eraseIdx i) to.toList) ⟨to,[],0⟩=f1 at hg
    have hlt1:findL (m.fs.eraseIdx i) to.toList<(cs.eraseIdx i).length:=by rw [hcl'];exact (List.getElem?_eq_some_iff.1 hg).1
    have hg1:=List.getElem?_eq_getElem hlt1
    generalize (cs.eraseIdx i)[findL (m.fs.eraseIdx i) to.toList]=c1 at hg1
    generalize findL (m.fs.eraseIdx i) to.toList=j at *
    refine xdraw (xnil (xget (h:=xget (h:=xget (h:=xget (h:=?_))))))
    refine xidxn (h1:=hlt1) (h:=fun _ _=>?_)
    refine xsetE (to,c1.2.1,c1.2.2) hg1 (hv:=rfl) (h:=?_)
    have g2:((cs.eraseIdx i).set j (to,c1.2.1,c1.2.2))[j]? = some (to,c1.2.1,c1.2.2):=List.getElem?_set_self hlt1
    refine xsetEj (to,c.2.1,c1.2.2) g2 (hj:=by decide) (hv:=rfl) (h:=?_)
    rw [List.set_set]
    have g3:((cs.eraseIdx i).set j (to,c.2.1,c1.2.2))[j]? = some (to,c.2.1,c1.2.2):=List.getElem?_set_self hlt1
    refine xsetEj (to,c.2.1,c.2.2) g3 (hj:=by decide) (hv:=rfl) (h:=?_)
    rw [List.set_set]
    -- Blk b, Ar FILE, FileR, Each, Blk b1
    refine xfold2 2 2 (Q:=Each FileR ((cs.eraseIdx i).set j (to,c.2.1,c.2.2)) ((m.fs.eraseIdx i).set j { f with nm:=to })) (fun g hgg=>?_) ?_
    · refine each_put hlt1 (List.getElem?_eq_some_iff.1 hg).1 ?_
      refine star_imp (P:=FileR c f) (fun q hq=>(⟨rfl,hq.2.1,hq.2.2⟩:FileR (to,c.2.1,c.2.2) { f with nm:=to } q)) ?_
      refine star_cons (l:=[Each FileR (cs.eraseIdx i) (m.fs.eraseIdx i)]) (fun q hq=>?_) hgg
      obtain ⟨a,_,pa,_,_,sa,_⟩:=hq
      obtain ⟨a1,b1,_,pb1,_,_,sb1⟩:=each_pick pa hg1 hg
      exact star_mono _ pb1 (sb1.trans sa)
    exact xdev_put 1 1 0 b s' ((cs.eraseIdx i).set j (to,c.2.1,c.2.2)) _ hinv (fun _ h=>h) (xdrop 1 (xret ⟨rfl,rfl⟩))
  · rw [if_neg (by rw [hw];simp)] at hinv ⊢
    have hle:=findL_le (m.fs.eraseIdx i) to.toList
    generalize findL (m.fs.eraseIdx i) to.toList=j at *
    refine xdraw (xnil (xget (h:=xget (h:=xget (h:=xget (h:=xnewS fun b2=>?_))))))
    refine xcl (Insert_spec s' (cs.eraseIdx i) j b2 (to,c.2.1,c.2.2) (by omega) (by omega)) rdb ?_
    rintro ⟨s2,_⟩ _ rfl
    refine app1 (ca1 (xnil (xset (h:=?_))))
    -- Ar FILE, Blk b, FileR, Each, Blk b1
    refine xfold2 2 2 (Q:=Each FileR ((cs.eraseIdx i).take j++(to,c.2.1,c.2.2)::(cs.eraseIdx i).drop j) (insL (m.fs.eraseIdx i) j { f with nm:=to })) (fun g hgg=>?_) ?_
    · exact each_ins j (star_imp (P:=FileR c f) (fun q hq=>(⟨rfl,hq.2.1,hq.2.2⟩:FileR (to,c.2.1,c.2.2) { f with nm:=to } q)) hgg)
    exact xdev_put 2 1 0 b s2 ((cs.eraseIdx i).take j++(to,c.2.1,c.2.2)::(cs.eraseIdx i).drop j) _ hinv (fun _ h=>h) (xdrop 1 (xret ⟨rfl,rfl⟩))
end
variable {B:Base}{As F:List HP}
abbrev calm (m:DM):Prop:=m.armed=false∧m.down=false
theorem spend_calm {m:DM}(h:calm m):spendM m=(m,true):=by unfold spendM;rw [h.1];rfl
theorem spent_calm {m:DM}(h:calm m) {g:DM→DM}(hg:calm m→calm (g m)):calm (spent m g).1:=by
  unfold spent;rw [spend_calm h];exact hg h
theorem onFile_calm {m:DM}(h:calm m) {nm:ByteArray}{g:Nat→DF→DM→DM×Int}(hg:∀ i f,calm (g i f m).1):calm (onFile m nm g).1:=by
  unfold onFile
  split
  · exact h
  · split
    · exact h
    · exact hg _ _
theorem remove_calm {m:DM}(h:calm m) (nm:ByteArray):calm (removeM m nm).1:=onFile_calm h fun _ _=>spent_calm h fun h=>h
theorem sync_calm {m:DM}(h:calm m) (nm:ByteArray):calm (syncM m nm).1:=onFile_calm h fun _ _=>spent_calm h fun h=>h
theorem rename_calm {m:DM}(h:calm m) (nm to:ByteArray):calm (renameM m nm to).1:=by
  unfold renameM
  split
  · exact h
  · exact onFile_calm h fun _ _=>spent_calm h fun h=>h
theorem append_calm {m:DM}(h:calm m) (nm:ByteArray) (b:List UInt8):calm (appendM m nm b).1:=by
  unfold appendM
  split
  · exact h
  split
  · exact h
  split
  · exact h
  rw [spend_calm h]
  exact h
theorem drop_calm {m:DM}(h:calm m) (nm:ByteArray):calm (dropM m nm).1:=by
  unfold dropM
  split<;>exact remove_calm h nm
theorem lay_calm {m:DM}(h:calm m) (s:Sg):calm (layM m s).1:=by
  unfold layM
  have h1:=drop_calm h newN
  dsimp only
  split
  · exact h1
  have h2:=append_calm h1 newN (frameN (be8 s.n.toNat++be8 s.first.toNat))
  split
  · exact h2
  have h3:=sync_calm h2 newN
  split
  · exact h3
  · exact rename_calm h3 newN headN
theorem gone_calm:∀ (ss:List Sg) {m:DM},calm m→calm (goneM ss m).1
  | [],m,h=>h
  | s::r,m,h=>by
    unfold goneM
    have h1:=remove_calm h (fN s.n)
    split
    · exact h1
    · exact gone_calm r h1
theorem trim_calm {m:DM}(h:calm m) (l:LM) (to keep:Int):calm (trimL m l to keep).1:=by
  unfold trimL
  split
  · exact h
  split
  · exact h
  dsimp only
  have h1:=lay_calm h ((l.segs[dropsL l to keep]?).getD ⟨0,0,0,[]⟩)
  split
  · exact h1
  have h2:=gone_calm (l.segs.take (dropsL l to keep)) h1
  split<;>exact h2
theorem trim_inv {l:LM}(h:LInv l) (m:DM) (to keep:Int):LInv (trimL m l to keep).2.1:=by
  unfold trimL
  split
  · exact h
  split
  · exact h
  dsimp only
  split
  · exact h
  split
  · exact h
  refine ⟨h.n,h.first,fun s hs=>h.segs s (List.mem_of_mem_drop hs),?_,h.safe,fun k s s' h1 h2=>?_⟩
  · have:=h.few;simp;omega
  · rw [List.getElem?_drop] at h1 h2
    exact h.chain (dropsL l to keep+k) s s' h1 (by rw [Nat.add_assoc];exact h2)
theorem wrap_pos {n:Int}(h0:0≤n) (h1:n≤4398046511104):IntKind.u64.wrap n=((n.toNat:Nat):Int):=by
  obtain ⟨k,rfl⟩:=Int.eq_ofNat_of_zero_le h0
  rw [wrap_u64 _ (by omega)];simp
theorem layHead_raw (b:Nat) (p:Option Addr) (m:DM) (l:LM) (s s3:Sl) (sg:Sg) (hn:0≤sg.n∧sg.n≤4398046511104) (hf:0≤sg.first∧sg.first≤4398046511104):Ct Pr F_segs_Log_layHead [.pointer (some ⟨b,0,none⟩),.agg #[.int .i64 sg.n,.int .i64 sg.first,.int .i64 sg.size,s3.v]] .one [.int .i64] [Blk b (logCells p l s),DevObj p m] emp
    (fun t Bs=>t.1=(layM m sg).2∧Bs=[Blk b (logCells p l s),DevObj p (layM m sg).1]):=by
  refine spec1 c_segs_Log_layHead fun B _=>?_
  unfold segs_Log_layHead
  refine xnew fun b1=>xget (h:=?_)
  rw [wrap_pos hn.1 hn.2]
  refine xcl (pre:=[]) (packPut_spec ⟨none,0,0⟩ [] sg.n.toNat (by omega) (by decide)) (rds_of fun _ _ _ _ _=>⟨rfl,rfl,fun h=>absurd h (Nat.lt_irrefl 0)⟩) ?_
  rintro ⟨s4,e,_⟩ _ ⟨_,rfl⟩
  refine app1 (ca2 (xget (h:=?_)))
  rw [wrap_pos hf.1 hf.2]
  have hb8:=be8_len sg.n.toNat
  have hb9:=be8_len sg.first.toNat
  refine xcl (pre:=[]) (packPut_spec s4 ([]++be8 sg.n.toNat) sg.first.toNat (by omega) (by rw [List.nil_append,hb8];decide)) rdb ?_
  rintro ⟨s5,e,_⟩ _ ⟨_,rfl⟩
  refine app1 (ca2 ?_)
  rw [List.nil_append]
  refine xcl (pre:=[]) (chunkPut_spec s5 (be8 sg.n.toNat++be8 sg.first.toNat) (by rw [List.length_append,hb8,hb9];decide)) rdb ?_
  rintro ⟨s6,e,_⟩ _ ⟨_,rfl⟩
  refine app1 (ca2 (xnil (xget (h:=?_))))
  simp only
  unfold layM
  dsimp only
  refine xcl (drop_spec p m newN) rdb ?_
  rintro ⟨t,_⟩ _ ⟨ht,rfl⟩
  simp only at ht;subst ht
  refine app1 (ca1 (xif (fun h=>?_) (fun h=>?_)))
  · rw [if_pos (by simpa using h)]
    exact xuse [Blk b (logCells p l s),DevObj p (dropM m newN).1] (xret ⟨rfl,rfl⟩)
  rw [if_neg (by simpa using h)]
  refine xnil (xget (h:=?_))
  refine xcl (Append_spec p (dropM m newN).1 newN s6 (frameN (be8 sg.n.toNat++be8 sg.first.toNat))) rdb ?_
  rintro ⟨t,_⟩ _ ⟨ht,rfl⟩
  simp only at ht;subst ht
  refine app1 (ca1 (xif (fun h=>?_) (fun h=>?_)))
  · rw [if_pos (by simpa using h)]
    exact xuse [Blk b (logCells p l s),DevObj p (appendM (dropM m newN).1 newN (frameN (be8 sg.n.toNat++be8 sg.first.toNat))).1] (xret ⟨rfl,rfl⟩)
  rw [if_neg (by simpa using h)]
  refine xnil (xget (h:=?_))
  refine xcl (Sync_spec p (appendM (dropM m newN).1 newN (frameN (be8 sg.n.toNat++be8 sg.first.toNat))).1 newN) rdb ?_
  rintro ⟨t,_⟩ _ ⟨ht,rfl⟩
  simp only at ht;subst ht
  refine app1 (ca1 (xif (fun h=>?_) (fun h=>?_)))
  · rw [if_pos (by simpa using h)]
    exact xuse [Blk b (logCells p l s),DevObj p (syncM (appendM (dropM m newN).1 newN (frameN (be8 sg.n.toNat++be8 sg.first.toNat))).1 newN).1] (xret ⟨rfl,rfl⟩)
  rw [if_neg (by simpa using h)]
  refine xnil (xget (h:=?_))
  refine xcl (Rename_spec p (syncM (appendM (dropM m newN).1 newN (frameN (be8 sg.n.toNat++be8 sg.first.toNat))).1 newN).1 newN headN) rdb ?_
  rintro ⟨t,_⟩ _ ⟨ht,rfl⟩
  simp only at ht;subst ht
  refine app1 (ca1 ?_)
  exact xuse [Blk b (logCells p l s),DevObj p (renameM (syncM (appendM (dropM m newN).1 newN (frameN (be8 sg.n.toNat++be8 sg.first.toNat))).1 newN).1 newN headN).1] (xret ⟨rfl,rfl⟩)
theorem SegClone_spec (s:Sl) (cs:List CS) (h0:0<cs.length) (hl:cs.length≤64):Ct Pr F_slices_Clone_L_segs_segment_segs_segment_ [s.v] .one [.slice] [] (RAr SEG s cs) (fun t Bs=>Bs=[Ar SEG t.1 cs]):=by
  refine spec1 c_slices_Clone_L_segs_segment_segs_segment_ fun B hr=>?_
  haveI:Fro B s SEG cs:=⟨hr⟩
  unfold slices_Clone_L_segs_segment_segs_segment_
  have hp:noneB s.p=false:=by
    obtain ⟨h1,_,h2⟩:=hr
    obtain ⟨b,o,_,_,_,_,hp,_⟩:=h2 (by omega)
    rw [hp];rfl
  refine xiff hp (xnew fun b=>?_)
  refine xfold1 0 (Q:=Ar SEG ⟨some ⟨b,0,none⟩,0,0⟩ []) (fun g hg=>⟨[],blk_ar [] 0 rfl rfl hg⟩) ?_
  refine xapp (E:=SEG) (s:=⟨some ⟨b,0,none⟩,0,0⟩) (y:=s) (ys:=cs) (hb:=by simp;omega) (h:=fun s'=>?_)
  rw [List.nil_append]
  exact xret rfl
theorem segTrim_spec (q p:Option Addr) (m:DM) (l:LM) (to:Int):Ct Pr F_segs_Log_Trim [.pointer q,.int .i64 to,.int .i64 1] .one [.int .i64] [LogObj q p l,DevObj p m] GTab
    (fun t Bs=>Bs=[LogObj q p (trimL m l to 1).2.1,DevObj p (trimL m l to 1).1]):=by
  refine spec1 c_segs_Log_Trim fun B hr=>?_
  haveI:FroP B GTab:=⟨hr,fun _ _ h s=>GTab.mono _ _ h s⟩
  unfold segs_Log_Trim
  refine xfact 0 (P1:=LogObj q p l) (fun g hg=>hg.1) fun hi0=>?_
  have hinv:=trim_inv hi0 m to 1
  unfold trimL at hinv ⊢
  dsimp only at hinv ⊢
  refine xlog 0 fun hi b s cs hq hf hs=>?_
  subst hq
  have back:∀ {As:List HP}(m':DM) {G F':List HP} [q:Split [Blk b (logCells p l s),Ar SEG s cs,Each SegR cs l.segs] As G] [q2:Find (DevObj p m') G F'] {x:Int},Ent B As (Ret B (ss:=[.int .i64]) (fun t Bs=>Bs=[LogObj (some ⟨b,0,none⟩) p l,DevObj p m']) (x,())):=by
    intro As m' G F' q q2 x
    refine xlog_back (p:=p) (l:=l) b s cs hi ?_
    exact xuse [LogObj (some ⟨b,0,none⟩) p l,DevObj p m'] (xret rfl)
  refine xcl (alive_raw b p m l s) rdb ?_
  rintro ⟨t,_⟩ _ ⟨ht,rfl⟩
  simp only at ht
  cases hd:m.down with
  | true=>
    rw [hd] at ht
    obtain rfl:t=10:=ht
    rw [if_pos rfl]
    exact app2 (ca1 (xift rfl (back m)))
  | false=>
  rw [hd] at ht
  obtain rfl:t=0:=ht
  rw [if_neg (by decide)]
  rw [hd,if_neg (by decide)] at hinv
  refine app2 (ca1 (xiff rfl ?_))
  refine xcl (drops_raw b p l s cs to hs hf hi) rdb ?_
  rintro ⟨t,_⟩ _ ⟨ht,rfl⟩
  simp only at ht;subst ht
  have hkl:dropsL l to 1≤l.segs.length - 1:=by
    unfold dropsL
    refine Nat.le_trans (List.takeWhile_sublist _).length_le ?_
    rw [List.length_take,show (max (1:Int) 1).toNat=1 from rfl];omega
  refine app2 (ca1 (xif (fun h=>?_) (fun h=>?_)))
  · have h':dropsL l to 1=0:=by have:=eq_of_beq h;omega
    rw [if_pos h']
    exact back m
  have h':dropsL l to 1≠0:=fun e=>by rw [e] at h;simp at h
  rw [if_neg h'] at hinv ⊢
  generalize hkE:dropsL l to 1=k at *
  have hfew:=hi.few
  have hlen:=hf.len
  have hk:k<l.segs.length:=by omega
  obtain ⟨sg,hsg⟩:∃ sg,l.segs[k]? = some sg:=⟨_,List.getElem?_eq_getElem hk⟩
  obtain ⟨c,hc⟩:∃ c,cs[k]? = some c:=⟨_,List.getElem?_eq_getElem (by omega)⟩
  rw [hsg] at hinv ⊢
  simp only [Option.getD_some] at hinv ⊢
  obtain ⟨g1,g2,g3,g4,g5⟩:=hf.each k c sg hc hsg
  obtain ⟨b1,b2,b3,b4,b5⟩:=hi.segs sg (List.mem_of_getElem? hsg)
  refine xnil (xget (h:=?_))
  refine xidxn (E:=SEG) (xs:=cs) (s:=s) (h1:=by omega) (h:=fun _ _=>?_)
  refine xgetE (E:=SEG) (xs:=cs) hc (h:=?_)
  iterate 3 (refine xgetEj (E:=SEG) (xs:=cs) hc (h:=?_))
  rw [g1,g2,g3]
  refine xcl (layHead_raw b p m l s c.2.2.2 sg ⟨by omega,by omega⟩ ⟨by omega,by omega⟩) rdb ?_
  rintro ⟨t,_⟩ _ ⟨ht,rfl⟩
  simp only at ht;subst ht
  refine app2 (ca1 (xif (fun h=>?_) (fun h=>?_)))
  · rw [if_pos (by simpa using h)]
    exact back (layM m sg).1
  have h5:¬ (layM m sg).2≠0:=by simpa using h
  rw [if_neg h5] at hinv ⊢
  generalize (layM m sg).1=m1 at *
  refine xlen (E:=SEG) (xs:=cs) s fun hsn0 hsc0=>?_
  refine xnil (xget (h:=xslc0 rfl (by omega) (by omega) ?_))
  simp only [Int.toNat_natCast]
  have htk:(l.segs.take k).length=k:=by simp;omega
  refine xuse [Blk b (logCells p l s),Ar SEG s cs,Each SegR cs l.segs,DevObj p m1] ?_
  refine xloop1 (fun n (x:Int) As'=>∃ (j:Nat) (m2:DM),x=(j:Int)∧n=k - j∧j≤k∧goneM (l.segs.take k) m1=goneM ((l.segs.take k).drop j) m2∧As'=[Blk b (logCells p l s),Ar SEG s cs,Each SegR cs l.segs,DevObj p m2]) k ⟨0,m1,rfl,rfl,by omega,rfl,rfl⟩ ?_
  rintro n _ _ K ⟨j,m2,rfl,rfl,hj,hg,rfl⟩ hK
  refine xif_dec (fun h6=>?_) (fun h6=>?_)
  · have hjk:j<k:=by
      have h6:(j:Int)<(k:Int):=h6
      omega
    obtain ⟨sj,hsj⟩:∃ x,l.segs[j]? = some x:=⟨_,List.getElem?_eq_getElem (by omega)⟩
    obtain ⟨cj,hcj⟩:∃ x,cs[j]? = some x:=⟨_,List.getElem?_eq_getElem (by omega)⟩
    obtain ⟨q1,q2,q3,q4,q5⟩:=hf.each j cj sj hcj hsj
    obtain ⟨r1,r2,r3,r4,r5⟩:=hi.segs sj (List.mem_of_getElem? hsj)
    have htj:(cs.take k)[j]? = some cj:=by rw [List.getElem?_take_of_lt hjk];exact hcj
    have hdrop:(l.segs.take k).drop j=sj::(l.segs.take k).drop (j+1):=by
      rw [List.drop_eq_getElem_cons (by omega)]
      have:(l.segs.take k)[j]? = some sj:=by rw [List.getElem?_take_of_lt hjk];exact hsj
      rw [List.getElem?_eq_getElem (by omega)] at this
      rw [Option.some.inj this]
    rw [hdrop,goneM] at hg
    have rd:RdA B [Blk b (logCells p l s),Ar SEG s cs,Each SegR cs l.segs,DevObj p m2] ⟨s.p,k,s.c⟩ SEG (cs.take k):=⟨fun w hw=>by
      obtain ⟨g,⟨a1,c1,_,⟨a2,c2,p2,_,_,t2,_⟩,_,_,u1⟩,hm,_⟩:=hw
      have hcap:s.n≤s.c:=by obtain ⟨zs,hz⟩:=p2;exact hz.cap
      have:=(p2.read.mono (t2.trans (u1.trans hm))).cut 0 k s.c (by omega) (by omega) (by omega)
      rw [List.drop_zero,show SEG.sz=4 from rfl,cut_zero] at this
      exact this⟩
    refine xidxn (r:=rd) (E:=SEG) (xs:=cs.take k) (s:=⟨s.p,k,s.c⟩) (h1:=by rw [List.length_take];omega) (h:=fun _ _=>?_)
    refine xgetE (r:=rd) (E:=SEG) (xs:=cs.take k) htj (h:=?_)
    iterate 3 (refine xgetEj (r:=rd) (E:=SEG) (xs:=cs.take k) htj (h:=?_))
    refine xnew fun b5=>?_
    iterate 4 (refine xset (h:=?_))
    refine xdraw (xnil (xget (h:=xget (h:=?_))))
    rw [q1]
    refine xfile (by omega) (by omega) ?_
    refine xchk (h:=?_)
    refine xcl (Remove_spec p m2 (fN sj.n)) rdb ?_
    rintro ⟨t,_⟩ _ ⟨ht,rfl⟩
    simp only at ht;subst ht
    refine app1 (ca1 (xif (fun h7=>?_) (fun h7=>?_)))
    · have h7':(removeM m2 (fN sj.n)).2≠0:=by simpa using h7
      rw [if_pos h7'] at hg
      rw [hg,if_pos h7']
      exact back (removeM m2 (fN sj.n)).1
    · have h7':¬ (removeM m2 (fN sj.n)).2≠0:=by simpa using h7
      rw [if_neg h7'] at hg
      rw [wrap_succ j (by omega)]
      exact xuse' (hK (k - (j+1)) _ _ (by omega) ⟨j+1,(removeM m2 (fN sj.n)).1,rfl,rfl,by omega,hg,rfl⟩)
  · have hjk:j=k:=by
      have h6:¬ (j:Int)<(k:Int):=h6
      omega
    subst hjk
    rw [List.drop_eq_nil_of_le (by omega),goneM] at hg
    rw [hg,if_neg (by simp)] at hinv ⊢
    refine xnil (xget (h:=?_))
    refine xlen (E:=SEG) (xs:=cs) s fun hsn hsc=>?_
    refine xslc (by omega) (by omega) (by omega) (by omega) ?_
    simp only [Int.toNat_natCast]
    refine xcl (pre:=[]) (SegClone_spec (s.cut j s.n s.c 4) (cs.drop j) (by rw [List.length_drop];omega) (by rw [List.length_drop];omega)) (rds_of fun g _ hF hs hm=>?_) ?_
    · obtain ⟨a1,c1,_,⟨a2,c2,p2,_,_,t2,_⟩,_,_,u1⟩:=hs
      have:=(p2.read.mono (t2.trans (u1.trans hm))).cut j s.n s.c (by omega) hsc (by omega)
      rw [List.take_of_length_le (by omega)] at this
      exact this
    rintro ⟨s7,_⟩ _ rfl
    refine app1 (ca1 (xnil (xset (h:=?_))))
    refine xunf 3 (P1:=Each SegR cs l.segs) [Each SegR (cs.take j) (l.segs.take j),Each SegR (cs.drop j) (l.segs.drop j)] (fun g hg=>each_part j hg) (app2 ?_)
    refine xlog_back (p:=p) (l:={ l with segs:=l.segs.drop j }) b s7 (cs.drop j) hinv ?_
    exact xuse [LogObj (some ⟨b,0,none⟩) p { l with segs:=l.segs.drop j },DevObj p m2] (xret rfl)
end Go.Cx
namespace Go.Cx
open Go Go.Cf
set_option linter.unusedVariables false
set_option maxRecDepth 100000
variable {B:Base}{As F:List HP}
theorem at_spec (q p:Option Addr) (lg:LM) (n:Int) (hn:i64 n):Ct Pr F_law26_at [.pointer q,.int .i64 n] (.tup [some 5,none]) [.int .i64,.int .i64,.str,.int .i64,.int .i64,.bool] [LogObj q p lg] emp
    (fun t Bs=>t=((recAtM lg n).1.kind,(recAtM lg n).1.time,(recAtM lg n).1.tag,(recAtM lg n).1.val,(recAtM lg n).1.id,(recAtM lg n).2,())∧Bs=[LogObj q p lg]):=by
  refine spec_gen (ss:=[.int .i64,.int .i64,.str,.int .i64,.int .i64,.bool]) c_law26_at fun B _=>?_
  show Ent B [LogObj q p lg] (law26_at q n fun a b c d e f=>Ret B (ss:=[.int .i64,.int .i64,.str,.int .i64,.int .i64,.bool]) (fun t Bs=>t=((recAtM lg n).1.kind,(recAtM lg n).1.time,(recAtM lg n).1.tag,(recAtM lg n).1.val,(recAtM lg n).1.id,(recAtM lg n).2,())∧Bs=[LogObj q p lg]) (a,b,c,d,e,f,()))
  unfold law26_at
  refine xfact 0 (P1:=LogObj q p lg) (fun g hg=>hg.1) fun hi=>?_
  refine xnew fun b=>?_
  refine xcl (sGet_spec q p lg n hn) rdb ?_
  rintro ⟨s,e,_⟩ _ ⟨he,rfl⟩
  simp only at he;subst he
  have hlen:=getL_len hi n
  refine app2 (ca2 (xif (fun h=>?_) (fun h=>?_)))
  · have em:recAtM lg n=(rec0,false):=by unfold recAtM;rw [if_pos (by simpa using h)]
    iterate 5 (refine xset (h:=?_))
    iterate 5 (refine xget (h:=?_))
    exact xuse [LogObj q p lg] (xret ⟨by rw [em],rfl⟩)
  · have em:recAtM lg n=((getM (getL lg n).1).1,(getM (getL lg n).1).2 == 0):=by unfold recAtM;rw [if_neg (by simpa using h)]
    refine xfront 1 (xgot (by omega) (xnew fun b1=>?_))
    iterate 5 (refine xset (h:=?_))
    iterate 5 (refine xget (h:=?_))
    iterate 5 (refine xset (h:=?_))
    iterate 5 (refine xget (h:=?_))
    exact xuse [LogObj q p lg] (xret ⟨by rw [em],rfl⟩)
def inB (a b floor:Int) (y:KY):Bool:=(!(ltK y (a,0))&&ltK y (b,0))&&decide (y.2≥floor)
def sndK (ks:List KY):List Int:=ks.map fun y=>y.2
theorem sndK_len (ks:List KY):(sndK ks).length=ks.length:=by simp [sndK]
theorem sndK_get {ks:List KY}{k:Nat}{y:KY}(h:ks[k]? = some y):(sndK ks)[k]? = some y.2:=by unfold sndK;rw [List.getElem?_map,h];rfl
theorem rng_keys (m:XM) (a b floor:Int):rngX m a b floor=sndK (m.L.filter (inB a b floor)):=by
  unfold rngX selK rngK sndK
  rw [List.filter_filter]
  congr 2
  funext y
  unfold inB
  rw [Bool.and_comm]
def okG (lg:LM) (n:Int):Bool:=(getM (getL lg n).1).2 == 0
abbrev keyG (lg:LM) (n:Int):KY:=((getM (getL lg n).1).1.time,n)
def cntG (lg:LM) (Q:KY→Bool) (k:Nat):Nat:=((List.range k).filter fun i:Nat=>okG lg (lg.lo+i)&&Q (keyG lg (lg.lo+i))).length
theorem cntG_succ (lg:LM) (Q:KY→Bool) (k:Nat):cntG lg Q (k+1)=cntG lg Q k+(if (okG lg (lg.lo+k)&&Q (keyG lg (lg.lo+k)))=true then 1 else 0):=by
  unfold cntG
  rw [List.range_succ,List.filter_append,List.length_append]
  by_cases h:(okG lg (lg.lo+k)&&Q (keyG lg (lg.lo+k)))=true
  · rw [if_pos h,List.filter_cons_of_pos (by simpa using h)];rfl
  · rw [if_neg h,List.filter_cons_of_neg (by simpa using h)];rfl
theorem cntG_le (lg:LM) (Q:KY→Bool) (k:Nat):cntG lg Q k≤k:=by
  unfold cntG
  have:=List.length_filter_le (fun i:Nat=>okG lg (lg.lo+i)&&Q (keyG lg (lg.lo+i))) (List.range k)
  simpa using this
theorem openG (lg:LM):∀ k:Nat,SrtK (openTo lg k).L∧(∀ y,y∈(openTo lg k).L↔∃ i:Nat,i<k∧okG lg (lg.lo+i)=true∧y=keyG lg (lg.lo+i)) ∧
    ∀ Q:KY→Bool,((openTo lg k).L.filter Q).length=cntG lg Q k
  | 0=>⟨List.Pairwise.nil,fun y=>⟨fun h=>by simp [openTo] at h,fun ⟨i,h,_⟩=>by omega⟩,fun Q=>rfl⟩
  | k+1=>by
    obtain ⟨h1,h2,h3⟩:=openG lg k
    rw [openTo_succ]
    unfold stepX
    have hnot:keyG lg (lg.lo+k)∉(openTo lg k).L:=fun h=>by
      obtain ⟨i,hi,_,e⟩:=(h2 _).1 h
      have:lg.lo+(k:Int)=lg.lo+i:=congrArg Prod.snd e
      omega
    by_cases hok:(getM (getL lg (lg.lo+k)).1).2=0
    · have hb:okG lg (lg.lo+k)=true:=by unfold okG;rw [hok];rfl
      rw [if_pos hok]
      simp only
      refine ⟨ins_srt h1,fun y=>?_,fun Q=>?_⟩
      · rw [ins_iff h1,h2]
        constructor
        · rintro (rfl | ⟨i,a,b,c⟩)
          · exact ⟨k,by omega,hb,rfl⟩
          · exact ⟨i,by omega,b,c⟩
        · rintro ⟨i,a,b,rfl⟩
          by_cases e:i=k
          · subst e;exact .inl rfl
          · exact .inr ⟨i,by omega,b,rfl⟩
      · rw [ins_filter hnot,h3,cntG_succ,hb,Bool.true_and]
    · have hb:okG lg (lg.lo+k)=false:=by unfold okG;simpa using hok
      rw [if_neg hok]
      refine ⟨h1,fun y=>?_,fun Q=>?_⟩
      · rw [h2]
        constructor
        · rintro ⟨i,a,b,c⟩;exact ⟨i,by omega,b,c⟩
        · rintro ⟨i,a,b,rfl⟩
          by_cases e:i=k
          · subst e;rw [hb] at b;cases b
          · exact ⟨i,by omega,b,rfl⟩
      · rw [h3,cntG_succ,hb];simp
theorem getL_err {lg:LM}{n:Int}(h:(getL lg n).2≠0):(getL lg n).1=[]:=by
  unfold getL at h ⊢
  split
  · rfl
  · rename_i h1
    rw [if_neg h1] at h
    split
    · rename_i s hs;rw [hs] at h;exact absurd rfl h
    · rfl
theorem rec_ok (lg:LM) (n:Int):(recAtM lg n).2=okG lg n:=by
  unfold recAtM okG
  split
  · rename_i h
    rw [getL_err h];rfl
  · rfl
theorem rec_is {lg:LM}{n:Int}(h:okG lg n=true):(recAtM lg n).1=(getM (getL lg n).1).1∧checkR (recAtM lg n).1=0:=by
  have h0:(getM (getL lg n).1).2=0:=eq_of_beq h
  have e:(recAtM lg n).1=(getM (getL lg n).1).1:=by
    unfold recAtM
    split
    · rename_i h1
      rw [getL_err h1] at h0;cases h0
    · rfl
  exact ⟨e,by rw [e];exact getM_check h0⟩
theorem rec_time {lg:LM}{n:Int}(h:okG lg n=true):0≤(recAtM lg n).1.time:=(checkR_time (rec_is h).2).1
def firstT (lg:LM):Nat→Int→Int
  | 0,_=>-1
  | k+1,n=>if okG lg n then (recAtM lg n).1.time else firstT lg k (n+1)
theorem gone_first (lg:LM) (fr:Int):∀ (k:Nat) (n:Int),goneR lg fr k n=(decide (firstT lg k n<0)||decide (fr≤firstT lg k n))
  | 0,n=>by rw [goneR,firstT];rfl
  | k+1,n=>by
    rw [goneR,firstT,rec_ok]
    cases h:okG lg n with
    | true=>
      have:=rec_time h
      rw [if_pos rfl,if_pos rfl,decide_eq_false (by omega:¬ (recAtM lg n).1.time<0),Bool.false_or]
    | false=>
      rw [if_neg (by simp),if_neg (by simp)]
      exact gone_first lg fr k (n+1)
theorem rows_all (lg:LM):∀ (ns:List Int) (rows:Nat) (out:List Int),(∀ n∈ns,okG lg n=true∧0≤n∧n≤1099511627776)→rows+ns.length≤454→rowsW lg rows out ns=out++ns.flatMap fun n=>rowM n (recAtM lg n).1
  | [],rows,out,_,_=>by rw [rowsW];simp
  | n::ns,rows,out,h,hl=>by
    obtain ⟨h1,h2,h3⟩:=h n (by simp)
    obtain ⟨_,hc⟩:=rec_is h1
    have hw:(wordsM n (recAtM lg n).1).1=rowM n (recAtM lg n).1:=by
      unfold wordsM
      rw [if_neg (by rw [hc];simp),if_neg (by omega)]
    rw [List.length_cons] at hl
    rw [rowsW,if_neg (by rw [rec_ok,h1];simp),if_neg (by omega),rows_all lg ns (rows+1) _ (fun m hm=>h m (List.mem_cons_of_mem _ hm)) (by omega),hw,List.flatMap_cons,List.append_assoc]
theorem flat_len (f:Int→List Int) (hf:∀ n,(f n).length=22):∀ ns:List Int,(ns.flatMap f).length=22*ns.length
  | []=>rfl
  | n::ns=>by rw [List.flatMap_cons,List.length_append,hf,flat_len f hf ns,List.length_cons];omega
theorem flat_row (f:Int→List Int) (hf:∀ n,(f n).length=22):∀ {ns:List Int}{i:Nat}{n:Int},ns[i]? = some n→((ns.flatMap f).take (22*(i+1))).drop (22*i)=f n
  | [],i,n,h=>by simp at h
  | m::ns,0,n,h=>by
    obtain rfl:m=n:=by simpa using h
    rw [List.flatMap_cons,List.take_append_of_le_length (by rw [hf];omega),List.take_of_length_le (by rw [hf];omega)];rfl
  | m::ns,i+1,n,h=>by
    rw [List.flatMap_cons,show 22*(i+1+1)=(f m).length+22*(i+1) by rw [hf];omega,List.take_length_add_append,show 22*(i+1)=(f m).length+22*i by rw [hf];omega,List.drop_length_add_append]
    have:=flat_row f hf (ns:=ns) (i:=i) (n:=n) (by simpa using h)
    rw [hf,show 22+22*i=22*(i+1) by omega]
    exact this
theorem trim_next {l:LM}(m:DM) (to:Int):(trimL m l to 1).2.1.next=l.next:=by
  unfold trimL
  split
  · rfl
  split
  · rfl
  rename_i h0
  dsimp only
  split
  · rfl
  split
  · rfl
  have hkl:dropsL l to 1≤l.segs.length - 1:=by
    unfold dropsL
    refine Nat.le_trans (List.takeWhile_sublist _).length_le ?_
    rw [List.length_take,show (max (1:Int) 1).toNat=1 from rfl];omega
  unfold LM.next LM.cur
  simp only
  rw [List.getLast?_drop,if_neg (by omega)]
theorem great26_spec (s0:Sl) (to:Int) (s2:Sl) (rs:List Sl) (ps:List (List UInt8)):Ct Pr F_law26_great [.agg #[s0.v,.int .i64 to,s2.v]] .one [.bool] [] (RowsAt s0 rs ps) (fun t Bs=>(t.1=false→ps.length≤600)∧Bs=[]):=by
  refine spec1 c_law26_great fun B hr=>?_
  obtain ⟨ha,hl,hrow⟩:=hr
  haveI:Fro B s0 SL rs:=⟨ha⟩
  have h1:=ha.1
  unfold law26_great
  have fin:∀ {As:List HP},Ent B As (Ret B (ss:=[.bool]) (fun t Bs=>(t.1=false→ps.length≤600)∧Bs=[]) (true,())):=xkeep (l:=[]) (xret ⟨fun e=>(by cases e),rfl⟩)
  refine xnew fun b=>xget (h:=?_)
  refine xjoin1 (fun(c:Bool) As'=>(c=false→rs.length≤600)∧As'=[Blk b [s0.v,.int .i64 to,s2.v]]) (fun K hK=>xif_dec (fun h=>hK _ _ ⟨fun e=>by (cases e),rfl⟩) (fun h=>xget (h:=hK _ _ ⟨fun _=>by omega,rfl⟩))) ?_
  rintro c _ ⟨hc,rfl⟩
  refine xif (fun h=>fin) (fun h=>?_)
  have h600:=hc h
  refine xloop2 (fun m (n:Int) (x:Int) As'=>∃ k:Nat,x=(k:Int)∧m=rs.length - k∧k≤rs.length∧As'=[Blk b [s0.v,.int .i64 to,s2.v]]) rs.length ⟨0,rfl,rfl,by omega,rfl⟩ ?_
  rintro m n x As' K ⟨k,rfl,rfl,hk,rfl⟩ hK
  refine xget (h:=xif_dec (fun hp=>?_) (fun hp=>xkeep (l:=[]) (xret ⟨fun _=>by omega,rfl⟩)))
  refine xget (h:=?_)
  refine xidxn (E:=SL) (xs:=rs) (s:=s0) (h1:=by omega) (h:=fun r hr=>?_)
  refine xgetE (E:=SL) (xs:=rs) hr (h:=xif_dec (fun h2=>fin) (fun h2=>xget (h:=?_)))
  refine xidxn (E:=SL) (xs:=rs) (s:=s0) (h1:=by omega) (h:=fun r' hr'=>?_)
  refine xgetE (E:=SL) (xs:=rs) hr' (h:=xif_dec (fun h2=>fin) (fun h2=>?_))
  rw [wrap_succ k (by omega)]
  exact hK _ _ _ _ (by omega) ⟨k+1,rfl,rfl,by omega,rfl⟩
end Go.Cx
namespace Go.Cx
open Go Go.Cf
set_option linter.unusedVariables false
set_option maxRecDepth 100000
variable {B:Base}{As F:List HP}{α:Type}
abbrev P3:=Int×Int×Int
def PaE:Enc P3:=⟨fun k=>[.int .i64 k.1,.int .i64 k.2.1,.int .i64 k.2.2],3,fun _=>rfl,fun x v h=>by simp at h;rcases h with rfl | rfl | rfl<;>rfl,by decide,(0,0,0)⟩
theorem shape20_spec:Ct Pr F_ask_shapeOf [.int .i64 20] (.tup [some 5,none]) [.int .i64,.bool,.bool,.bool,.bool,.bool] [] emp
    (fun t Bs=>t=(35,false,false,false,true,true,())∧Bs=[]):=by
  refine spec_gen (ss:=[.int .i64,.bool,.bool,.bool,.bool,.bool]) c_ask_shapeOf fun B _=>?_
  show Ent B [] (ask_shapeOf 20 fun x0 x1 x2 x3 x4 x5=>Ret B (ss:=[.int .i64,.bool,.bool,.bool,.bool,.bool]) (fun t Bs=>t=(35,false,false,false,true,true,())∧Bs=[]) (x0,x1,x2,x3,x4,x5,()))
  unfold ask_shapeOf
  refine xnew fun b=>?_
  repeat' (first | refine xjoin ?_ | refine xift (by decide) ?_ | refine xiff (by decide) ?_ | refine xset (h:=?_) | refine xget (h:=?_))
  exact xkeep (l:=[]) (xret ⟨rfl,rfl⟩)
theorem many20_spec (m:Int) (a b c:Int) (s1 s2 s3:Sl):Ct Pr F_ask_many [.agg #[.int .i64 m,.bool false,.bool false,.bool false,.bool true],.agg #[.int .i64 a,.int .i64 b,.int .i64 c,s1.v,s2.v,s3.v]] .one [.int .i64] [] emp
    (fun t Bs=>t.1=(s3.n:Int)∧Bs=[]):=by
  refine spec1 c_ask_many fun B _=>?_
  unfold ask_many
  refine xnew fun b=>xnew fun b1=>?_
  refine xget (h:=xiff rfl (xget (h:=xiff rfl (xget (h:=xiff rfl (xget (h:=?_)))))))
  exact xkeep (l:=[]) (xret ⟨rfl,rfl⟩)
def partB (p:P3):Bool:=decide (p.1<1)||decide (p.1>65535)||decide (p.2.1<0)||decide (p.2.1≥10000)||decide (p.2.2<1)||decide (p.2.2>10000 - p.2.1)
def chkP (room:Int):List P3→Int
  | []=>if room<0 then 2 else 0
  | p::ps=>if partB p=true then 3 else chkP (room - (2+2*p.2.2)) ps
theorem chkP_ok:∀ (ps:List P3) (room:Int),chkP room ps=0→∀ p∈ps,partB p=false
  | [],_,_,p,hp=>by simp at hp
  | q::ps,room,h,p,hp=>by
    rw [chkP] at h
    cases hq:partB q with
    | true=>rw [if_pos hq] at h;cases h
    | false=>
      rw [if_neg (by rw [hq];simp)] at h
      rcases List.mem_cons.1 hp with rfl | hp
      · exact hq
      · exact chkP_ok ps _ h p hp
def askF (addr count:Int) (on set:Sl) (ps:List P3):Int:=
  if count≠0∨0<on.n∨0<set.n∨addr≠0 then 23 else if ps.length<1∨35<ps.length then 22 else chkP 245 ps
theorem AskF_spec (addr count:Int) (on set s:Sl) (ps:List P3):Ct Pr F_ask_Check [.agg #[.int .i64 20,.int .i64 addr,.int .i64 count,on.v,set.v,s.v]] .one [.int .i64] [] (RAr PaE s ps) (fun t Bs=>t.1=askF addr count on set ps∧Bs=[]):=by
  refine spec1 c_ask_Chk fun B hr=>?_
  haveI:Fro B s PaE ps:=⟨hr⟩
  have hsn:=hr.1
  have fin:∀ {x:Int}{As:List HP},x=askF addr count on set ps→Ent B As (Ret B (ss:=[.int .i64]) (fun r Bs=>r.1=askF addr count on set ps∧Bs=[]) (x,())):=fun h=>xkeep (l:=[]) (xret ⟨h,rfl⟩)
  unfold ask_Chk
  refine xnew fun b=>xget (h:=?_)
  refine xcall0 shape20_spec rdb ?_
  rintro t _ ⟨rfl,rfl⟩
  refine app0 (ca6 (xnew fun b1=>?_))
  iterate 5 (refine xset (h:=?_))
  refine xeq t_ask_Check_2 ?_
  unfold ask_Check_2
  have bad:count≠0∨0<on.n∨0<set.n∨addr≠0→(23:Int)=askF addr count on set ps:=fun h=>by unfold askF;rw [if_pos h]
  refine xiff rfl (xget (h:=xjoin (xift rfl (xget (h:=xif (fun h=>?_) (fun hc=>?_))))))
  · exact xift h (fin (bad (.inl (by simpa using h))))
  refine xget (h:=xjoin (xift rfl (xget (h:=xif (fun h=>?_) (fun ho=>?_)))))
  · exact xift h (fin (bad (.inr (.inl (by simpa using h)))))
  refine xget (h:=xjoin (xift rfl (xget (h:=xif (fun h=>?_) (fun hs=>?_)))))
  · exact xift h (fin (bad (.inr (.inr (.inl (by simpa using h))))))
  refine xget (h:=xjoin (xiff rfl (xiff rfl (xget (h:=xjoin (xift rfl (xget (h:=xif (fun h=>?_) (fun ha=>?_)))))))))
  · exact fin (bad (.inr (.inr (.inr (by simpa using h)))))
  have hc0:count=0:=by simpa using hc
  have ha0:addr=0:=by simpa using ha
  have ho0:¬ 0<on.n:=by simpa using ho
  have hs0:¬ 0<set.n:=by simpa using hs
  have e1:¬ (count≠0∨0<on.n∨0<set.n∨addr≠0):=by omega
  refine xget (h:=xjoin (xiff (by rw [ha0];rfl) (xget (h:=xiff (by rw [ha0];rfl) ?_))))
  refine xeq t_ask_Check_3 ?_
  unfold ask_Check_3
  iterate 11 (refine xget (h:=?_))
  refine xcall0 (many20_spec _ _ _ _ _ _ _) rdb ?_
  rintro ⟨x,_⟩ _ ⟨hx,rfl⟩
  simp only at hx;rw [hx]
  refine app0 (ca1 (xjoin (xif (fun h2=>xift rfl (fin ?_)) (fun h2=>xget (h:=xif (fun h2'=>fin ?_) (fun h2'=>?_))))))
  · unfold askF;rw [if_neg e1,if_pos (.inl (by simp at h2;omega))]
  · unfold askF;rw [if_neg e1,if_pos (.inr (by simp at h2';omega))]
  have e2:¬ (ps.length<1∨35<ps.length):=by simp at h2 h2';omega
  have e3:askF addr count on set ps=chkP 245 ps:=by unfold askF;rw [if_neg e1,if_neg e2]
  refine xget (h:=xjoin (xiff rfl (xiff rfl ?_)))
  refine xeq t_ask_Check_4 ?_
  unfold ask_Check_4
  refine xget (h:=?_)
  refine xuse [] ?_
  refine xloop2 (fun n (room:Int) (x4:Int) As'=>∃ k:Nat,x4=(k:Int)∧n=ps.length - k∧k≤ps.length∧chkP 245 ps=chkP room (ps.drop k)∧-(20002*(k:Int))≤room∧room≤245∧As'=[]) ps.length ⟨0,rfl,by omega,by omega,rfl,by omega,by omega,rfl⟩ ?_
  rintro n room _ _ K ⟨k,rfl,rfl,hk,he,r1,r2,rfl⟩ hK
  refine xif_dec (fun hlt=>?_) (fun hlt=>?_)
  · have hkl:k<ps.length:=by omega
    obtain ⟨⟨a,f,c⟩,hy⟩:∃ y,ps[k]? = some y:=⟨_,List.getElem?_eq_getElem hkl⟩
    have hdrop:ps.drop k=(a,f,c)::ps.drop (k+1):=by rw [List.drop_eq_getElem_cons hkl];congr 1;exact (List.getElem?_eq_some_iff.1 hy).2
    rw [hdrop,chkP] at he
    refine xidxn (E:=PaE) (xs:=ps) (s:=s) (h1:=hkl) (h:=fun _ _=>?_)
    refine xgetE (E:=PaE) (xs:=ps) hy (h:=?_)
    refine xgetEj (E:=PaE) (xs:=ps) hy (h:=?_)
    refine xgetEj (E:=PaE) (xs:=ps) hy (h:=?_)
    dsimp only
    refine xnew fun b2=>?_
    iterate 3 (refine xset (h:=?_))
    refine xget (h:=?_)
    refine xjoin1 (fun(x:Bool) As'=>x=(decide (a<1)||decide (a>65535))∧As'=[Blk b2 [.int .i64 a,.int .i64 f,.int .i64 c]]) (fun K1 hK1=>xif (fun h=>hK1 _ _ ⟨by rw [h];rfl,rfl⟩) (fun h=>xget (h:=hK1 _ _ ⟨by rw [h];rfl,rfl⟩))) ?_
    rintro x _ ⟨hx,rfl⟩
    refine xjoin1 (fun(y:Bool) As'=>y=(x||decide (f<0))∧As'=[Blk b2 [.int .i64 a,.int .i64 f,.int .i64 c]]) (fun K1 hK1=>xif (fun h=>hK1 _ _ ⟨by rw [h];rfl,rfl⟩) (fun h=>xget (h:=hK1 _ _ ⟨by rw [h];rfl,rfl⟩))) ?_
    rintro x2 _ ⟨hx2,rfl⟩
    refine xjoin1 (fun(y:Bool) As'=>y=(x2||decide (f≥10000))∧As'=[Blk b2 [.int .i64 a,.int .i64 f,.int .i64 c]]) (fun K1 hK1=>xif (fun h=>hK1 _ _ ⟨by rw [h];rfl,rfl⟩) (fun h=>xget (h:=hK1 _ _ ⟨by rw [h];rfl,rfl⟩))) ?_
    rintro x3 _ ⟨hx3,rfl⟩
    refine xjoin1 (fun(y:Bool) As'=>y=(x3||decide (c<1))∧As'=[Blk b2 [.int .i64 a,.int .i64 f,.int .i64 c]]) (fun K1 hK1=>xif (fun h=>hK1 _ _ ⟨by rw [h];rfl,rfl⟩) (fun h=>xget (h:=hK1 _ _ ⟨by rw [h];rfl,rfl⟩))) ?_
    rintro x4 _ ⟨hx4,rfl⟩
    have hf:x4=false→0≤f∧f<10000∧1≤c:=fun h=>by
      rw [h] at hx4
      have h4:=hx4.symm
      rw [Bool.or_eq_false_iff] at h4
      rw [hx3,hx2] at h4
      simp at h4
      omega
    refine xjoin1 (fun(y:Bool) As'=>y=(x4||decide (c>10000 - f))∧As'=[Blk b2 [.int .i64 a,.int .i64 f,.int .i64 c]]) (fun K1 hK1=>xif (fun h=>hK1 _ _ ⟨by rw [h];rfl,rfl⟩) (fun h=>xget (h:=xget (h:=hK1 _ _ ⟨?_,rfl⟩)))) ?_
    · obtain ⟨f0,f1,_⟩:=hf h
      rw [h,wrap_id _ (by omega) (by omega)];rfl
    rintro x5 _ ⟨hx5,rfl⟩
    have hp:x5=partB (a,f,c):=by rw [hx5,hx4,hx3,hx2,hx];rfl
    rw [←hp] at he
    refine xif (fun h=>fin ?_) (fun h=>xget (h:=?_))
    · rw [e3,he,if_pos h]
    rw [if_neg (by rw [h];simp)] at he
    rw [h] at hx5
    have h5:=hx5.symm
    rw [Bool.or_eq_false_iff] at h5
    obtain ⟨f0,f1,f2⟩:=hf h5.1
    have f3:c≤10000 - f:=by have:=h5.2;simp at this;omega
    have w1:IntKind.i64.wrap (room - IntKind.i64.wrap (2+IntKind.i64.wrap (2*c)))=room - (2+2*c):=by
      rw [wrap_id (2*c) (by omega) (by omega),wrap_id (2+2*c) (by omega) (by omega),wrap_id _ (by omega) (by omega)]
    rw [w1,wrap_succ k (by omega)]
    refine xuse [] ?_
    exact hK _ _ _ _ (by omega) ⟨k+1,rfl,rfl,by omega,he,by omega,by omega,rfl⟩
  · rw [List.drop_of_length_le (by omega),chkP] at he
    refine xif_dec (fun h=>fin ?_) (fun h=>fin ?_)
    · rw [e3,he,if_pos h]
    · rw [e3,he,if_neg h]
end Go.Cx
namespace Go.Cx
open Go Go.Cf
set_option linter.unusedVariables false
set_option maxRecDepth 100000
variable {B:Base}{As F:List HP}{α:Type}
def RowsO (s:Sl) (ws:List (List Int)):HP:=fun h=>∃ rs:List Sl,star [Ar SL s rs,Each (Ar W16) rs ws] h
def filesM (lg:LM) (X:XM) (span:Int):List P3→Option (List (List Int))
  | []=>some []
  | p::ps=>if (fileM lg X span p.1).2≠0∨p.2.1+p.2.2>((fileM lg X span p.1).1.length:Int) then none
    else (filesM lg X span ps).map (((fileM lg X span p.1).1.take (p.2.1+p.2.2).toNat).drop p.2.1.toNat :: ·)
def doM (lg:LM) (X:XM) (span code addr count:Int) (on set:Sl) (ps:List P3):Int×List (List Int):=
  if code≠20 then (1,[]) else if askF addr count on set ps≠0 then (3,[]) else match filesM lg X span ps with
  | none=>(2,[])
  | some fs=>(0,fs)
theorem Do_spec (l x d:Option Addr) (lg:LM) (X:XM) (span code addr count:Int) (on set s:Sl) (ps:List P3) (hL:X.L.length≤1000000) (hX:∀ y∈X.L,i64 y.2):Ct Pr F_history_Do [.pointer l,.pointer x,.int .i64 span,.agg #[.int .i64 code,.int .i64 addr,.int .i64 count,on.v,set.v,s.v]] .agg [.int .i64,.slice,.slice,.slice] [LogObj l d lg,IdxObj x d l X] (RAr PaE s ps)
    (fun t Bs=>t.1=(doM lg X span code addr count on set ps).1∧t.2.1=⟨none,0,0⟩∧t.2.2.1=⟨none,0,0⟩∧Bs=[LogObj l d lg,IdxObj x d l X,RowsO t.2.2.2.1 (doM lg X span code addr count on set ps).2]):=by
  refine spec4 c_history_Do fun B hr=>?_
  haveI:Fro B s PaE ps:=⟨hr⟩
  have hsn:=hr.1
  have err:∀ {As G:List HP}{e:Int} [q:Split [LogObj l d lg,IdxObj x d l X] As G],doM lg X span code addr count on set ps=(e,[])→Ent B As (Ret B (ss:=[.int .i64,.slice,.slice,.slice]) (fun t Bs=>t.1=(doM lg X span code addr count on set ps).1∧t.2.1=⟨none,0,0⟩∧t.2.2.1=⟨none,0,0⟩∧Bs=[LogObj l d lg,IdxObj x d l X,RowsO t.2.2.2.1 (doM lg X span code addr count on set ps).2]) (e,⟨none,0,0⟩,⟨none,0,0⟩,⟨none,0,0⟩,())):=by
    intro As G e q h
    refine xuse [LogObj l d lg,IdxObj x d l X] (xnone SL ?_)
    refine xfold [Ar SL ⟨none,0,0⟩ []] (RowsO ⟨none,0,0⟩ []) (fun g hg=>⟨[],?_⟩) ?_
    · obtain ⟨a,b,p1,p2,p3,p4,p5⟩:=hg
      exact ⟨a,b,p1,⟨b,fun _=>none,trivial,trivial,fun _=>.inr rfl,Sub.refl _,fun _ _ e=>by cases e⟩,p3,p4,p5⟩
    refine xuse [LogObj l d lg,IdxObj x d l X,RowsO ⟨none,0,0⟩ []] (xret ⟨by rw [h],rfl,rfl,by rw [h]⟩)
  unfold history_Do
  refine xnew fun b=>xnew fun b1=>xget (h:=xif (fun h=>?_) (fun h=>?_))
  · iterate 4 (refine xset (h:=?_))
    refine xget (h:=xget (s:=.slice) (x:=⟨none,0,0⟩) (h:=xget (s:=.slice) (x:=⟨none,0,0⟩) (h:=xget (s:=.slice) (x:=⟨none,0,0⟩) (h:=?_))))
    refine err ?_
    unfold doM;rw [if_pos (by simpa using h)]
  obtain rfl:code=20:=by simpa using h
  have e0:doM lg X span 20 addr count on set ps=if askF addr count on set ps≠0 then ((3,[]):Int×List (List Int)) else match filesM lg X span ps with
    | none=>(2,[])
    | some fs=>(0,fs):=by unfold doM;rw [if_neg (by simp)]
  iterate 6 (refine xget (h:=?_))
  refine xcall0 (AskF_spec addr count on set s ps) rdb ?_
  rintro ⟨e,_⟩ _ ⟨he,rfl⟩
  simp only at he;subst he
  refine app0 (ca1 (xif (fun h=>?_) (fun h=>?_)))
  · iterate 4 (refine xset (h:=?_))
    refine xget (h:=xget (s:=.slice) (x:=⟨none,0,0⟩) (h:=xget (s:=.slice) (x:=⟨none,0,0⟩) (h:=xget (s:=.slice) (x:=⟨none,0,0⟩) (h:=?_))))
    refine err ?_
    rw [e0,if_pos (by simpa using h)]
  have hask:askF addr count on set ps=0:=by simpa using h
  rw [if_neg (by simpa using h)] at e0
  have hpl:ps.length≤35∧chkP 245 ps=0:=by
    unfold askF at hask
    split at hask
    · cases hask
    · split at hask
      · cases hask
      · exact ⟨by omega,hask⟩
  have hpart:=chkP_ok ps 245 hpl.2
  refine xget (h:=?_)
  refine xnone SL ?_
  refine xfold [Ar SL ⟨none,0,0⟩ []] (RowsO ⟨none,0,0⟩ []) (fun g hg=>⟨[],?_⟩) ?_
  · obtain ⟨a,b,p1,p2,p3,p4,p5⟩:=hg
    exact ⟨a,b,p1,⟨b,fun _=>none,trivial,trivial,fun _=>.inr rfl,Sub.refl _,fun _ _ e=>by cases e⟩,p3,p4,p5⟩
  refine xuse [LogObj l d lg,IdxObj x d l X,RowsO ⟨none,0,0⟩ [],Blk b1 [.int .i64 0,.slice none 0 0,.slice none 0 0,.slice none 0 0]] ?_
  refine xloop2 (fun n (fl:Sl) (z:Int) As'=>∃ (k:Nat) (done:List (List Int)),z=(k:Int)∧n=ps.length - k∧k≤ps.length∧done.length=k∧filesM lg X span ps=(filesM lg X span (ps.drop k)).map (done ++ ·)∧As'=[LogObj l d lg,IdxObj x d l X,RowsO fl done,Blk b1 [.int .i64 0,.slice none 0 0,.slice none 0 0,.slice none 0 0]]) ps.length ⟨0,[],rfl,rfl,by omega,rfl,by simp,rfl⟩ ?_
  rintro n fl _ _ K ⟨k,done,rfl,rfl,hk,hdl,hfm,rfl⟩ hK
  refine xif_dec (fun hlt=>?_) (fun hlt=>?_)
  · have hkl:k<ps.length:=by omega
    obtain ⟨⟨a,f,c⟩,hy⟩:∃ y,ps[k]? = some y:=⟨_,List.getElem?_eq_getElem hkl⟩
    have hdrop:ps.drop k=(a,f,c)::ps.drop (k+1):=by rw [List.drop_eq_getElem_cons hkl];congr 1;exact (List.getElem?_eq_some_iff.1 hy).2
    have hpb:=hpart _ (List.mem_of_getElem? hy)
    unfold partB at hpb
    simp at hpb
    rw [hdrop,filesM] at hfm
    simp only at hfm hpb
    refine xidxn (E:=PaE) (xs:=ps) (s:=s) (h1:=hkl) (h:=fun _ _=>?_)
    refine xgetE (E:=PaE) (xs:=ps) hy (h:=?_)
    refine xgetEj (E:=PaE) (xs:=ps) hy (h:=?_)
    refine xgetEj (E:=PaE) (xs:=ps) hy (h:=?_)
    dsimp only
    refine xnew fun b2=>?_
    iterate 3 (refine xset (h:=?_))
    refine xget (h:=?_)
    refine xcl (File_spec l x d lg X span a hL hX) rdb ?_
    rintro ⟨s4,e1,_⟩ _ ⟨he1,rfl⟩
    simp only at he1;subst he1
    refine app3 (ca2 ?_)
    simp only
    generalize hws:(fileM lg X span a).1=ws at *
    generalize hee:(fileM lg X span a).2=e at *
    refine xlen (E:=W16) (xs:=ws) s4 fun hwn hwc=>?_
    refine xuse [Ar W16 s4 ws,LogObj l d lg,IdxObj x d l X,RowsO fl done,Blk b1 [.int .i64 0,.slice none 0 0,.slice none 0 0,.slice none 0 0],Blk b2 [.int .i64 a,.int .i64 f,.int .i64 c]] ?_
    refine xjoin1 (fun(y:Bool) As'=>(y=true↔(e≠0∨f+c>(ws.length:Int)))∧As'=[Ar W16 s4 ws,LogObj l d lg,IdxObj x d l X,RowsO fl done,Blk b1 [.int .i64 0,.slice none 0 0,.slice none 0 0,.slice none 0 0],Blk b2 [.int .i64 a,.int .i64 f,.int .i64 c]]) (fun K1 hK1=>xif (fun h=>hK1 _ _ ⟨⟨fun _=>.inl (by simpa using h),fun _=>rfl⟩,rfl⟩) (fun h=>xget (h:=xget (h:=hK1 _ _ ⟨?_,rfl⟩)))) ?_
    · rw [wrap_id _ (by omega) (by omega)]
      have:e=0:=by simpa using h
      simp only [decide_eq_true_eq]
      omega
    rintro y _ ⟨hy1,rfl⟩
    refine xif (fun h=>?_) (fun h=>?_)
    · rw [if_pos (hy1.1 h)] at hfm
      iterate 4 (refine xset (h:=?_))
      refine xget (h:=xget (s:=.slice) (x:=⟨none,0,0⟩) (h:=xget (s:=.slice) (x:=⟨none,0,0⟩) (h:=xget (s:=.slice) (x:=⟨none,0,0⟩) (h:=?_))))
      refine err ?_
      rw [e0,hfm];rfl
    have hno:¬ (e≠0∨f+c>(ws.length:Int)):=fun q=>by rw [hy1.2 q] at h;cases h
    rw [if_neg hno] at hfm
    iterate 3 (refine xget (h:=?_))
    rw [wrap_id (f+c) (by omega) (by omega)]
    refine xslc (by omega) (by omega) (by omega) (by omega) ?_
    refine xnew fun b3=>?_
    simp only [Int.toNat_natCast]
    have hfl:[(ws.take (f+c).toNat).drop f.toNat].flatten=(ws.take (f+c).toNat).drop f.toNat:=by simp
    have hrl:((ws.take (f+c).toNat).drop f.toNat).length≤20000:=by rw [List.length_drop,List.length_take];omega
    generalize hro:(ws.take (f+c).toNat).drop f.toNat=row at *
    refine xfold1 0 (Q:=Ar SL ⟨some ⟨b3,0,none⟩,1,1⟩ [s4.cut f.toNat (f+c).toNat s4.c 1]) (fun g hg=>⟨[],blk_ar [s4.cut f.toNat (f+c).toNat s4.c 1] 1 rfl rfl hg⟩) ?_
    refine xcall0 (joined_spec ⟨some ⟨b3,0,none⟩,1,1⟩ [s4.cut f.toNat (f+c).toNat s4.c 1] [row] (by rw [hfl];omega) (by simp)) (rds_of fun g _ hF hs hm=>?_) ?_
    · obtain ⟨a1,a2,p1,⟨a3,a4,p3,_,_,t3,_⟩,_,t1,t2⟩:=hs
      refine ⟨p1.read.mono (t1.trans hm),rfl,fun i r x hr hx=>?_⟩
      match i with
      | 0=>
        simp only [List.getElem?_cons_zero,Option.some.injEq] at hr hx
        subst hr hx
        rw [←hro]
        exact (p3.read.mono ((t3.trans t2).trans hm)).cut f.toNat (f+c).toNat s4.c (by omega) (by omega) (by omega)
      | i+1=>simp at hr
    rintro ⟨s6,_⟩ _ rfl
    rw [hfl]
    refine app1 (ca1 (xnew fun b4=>?_))
    refine xuse [RowsO fl done,Blk b4 [s6.v],Ar W16 s6 row,LogObj l d lg,IdxObj x d l X,Blk b1 [.int .i64 0,.slice none 0 0,.slice none 0 0,.slice none 0 0]] ?_
    refine xopen 0 (fun Bs=>∃ rs:List Sl,rs.length=done.length∧Bs=[Ar SL fl rs,Each (Ar W16) rs done]) (fun g hg=>?_) ?_
    · obtain ⟨rs,hg⟩:=hg
      refine ⟨_,⟨rs,?_,rfl⟩,hg⟩
      obtain ⟨_,_,_,⟨_,_,pc,_⟩,_⟩:=hg
      exact Each.length pc
    rintro _ ⟨rs,hrs,rfl⟩
    refine app2 ?_
    refine xapp1 (E:=SL) s6 (hb:=by omega) (h:=fun s7=>?_)
    refine xfold [Each (Ar W16) rs done,Ar W16 s6 row] (Each (Ar W16) (rs++[s6]) (done++[row])) (fun g hg=>each_snoc hg) ?_
    refine xfold [Ar SL s7 (rs++[s6]),Each (Ar W16) (rs++[s6]) (done++[row])] (RowsO s7 (done++[row])) (fun g hg=>⟨_,hg⟩) ?_
    refine xuse [LogObj l d lg,IdxObj x d l X,RowsO s7 (done++[row]),Blk b1 [.int .i64 0,.slice none 0 0,.slice none 0 0,.slice none 0 0]] ?_
    rw [wrap_succ k (by omega)]
    refine hK _ _ _ _ (by omega) ⟨k+1,done++[row],rfl,rfl,by omega,by simp [hdl],?_,rfl⟩
    rw [hfm]
    cases filesM lg X span (ps.drop (k+1))<;>simp
  · rw [List.drop_of_length_le (by omega)] at hfm
    rw [hfm] at e0
    iterate 4 (refine xset (h:=?_))
    refine xget (h:=xget (s:=.slice) (x:=⟨none,0,0⟩) (h:=xget (s:=.slice) (x:=⟨none,0,0⟩) (h:=xget (h:=?_))))
    have e1:doM lg X span 20 addr count on set ps=(0,done):=by rw [e0];simp [filesM]
    refine xuse [LogObj l d lg,IdxObj x d l X,RowsO fl done] (xret ⟨by rw [e1],rfl,rfl,by rw [e1]⟩)
end Go.Cx
namespace Go.Cx
open Go Go.Cf
set_option linter.unusedVariables false
set_option maxRecDepth 100000
variable {B:Base}{As F:List HP}
theorem keyG_rec {lg:LM}{n:Int}(h:okG lg n=true):keyG lg n=((recAtM lg n).1.time,n):=by rw [(rec_is h).1]
theorem inG {lg:LM}{n fr span lo:Int}(h:okG lg n=true) (h0:0≤n) (hlo:lo≤n):inB fr (fr+span) lo (keyG lg n)=(decide ((recAtM lg n).1.time≥fr)&&decide ((recAtM lg n).1.time<fr+span)):=by
  rw [keyG_rec h]
  generalize (recAtM lg n).1.time=t
  have h1:ltK (t,n) (fr,0)=decide (t<fr):=by
    rw [Bool.eq_iff_iff,ltK_iff,decide_eq_true_eq]
    show t<fr∨(t=fr∧n<0)↔_
    omega
  have h2:ltK (t,n) (fr+span,0)=decide (t<fr+span):=by
    rw [Bool.eq_iff_iff,ltK_iff,decide_eq_true_eq]
    show t<fr+span∨(t=fr+span∧n<0)↔_
    omega
  have h3:(!decide (t<fr))=decide (t≥fr):=by
    by_cases h:t<fr
    · rw [decide_eq_true h,decide_eq_false (by omega)];rfl
    · rw [decide_eq_false h,decide_eq_true (by omega)];rfl
  unfold inB
  rw [h1,h2,h3]
  show (_&&decide (n≥lo))=_
  rw [decide_eq_true (by omega:n≥lo),Bool.and_true]
theorem exact_spec (s0:Sl) (rs:List Sl) (ps:List (List UInt8)) (to:Int) (s2:Sl) (span file:Int):Ct Pr F_law26_HistoryExact [.agg #[s0.v,.int .i64 to,s2.v],.int .i64 span,.int .i64 file] .one [.bool] [] ((RowsAt s0 rs ps).and GTab) (fun t Bs=>t.1=true∧Bs=[]):=by
  refine spec1 c_law26_HistoryExact fun B hr=>?_
  obtain ⟨hrows,hg⟩:=hr
  haveI:FroP B GTab:=⟨hg,fun _ _ h s=>GTab.mono _ _ h s⟩
  haveI:FroP B (RowsAt s0 rs ps):=⟨hrows,fun g h ⟨x1,x2,x3⟩ s=>⟨x1.mono s,x2,fun i r x hr hx=>(x3 i r x hr hx).mono s⟩⟩
  have hrl:rs.length=ps.length:=hrows.2.1
  have hsn0:rs.length=s0.n:=hrows.1.1
  have fin:∀ {As:List HP},Ent B As (Ret B (ss:=[.bool]) (fun t Bs=>t.1=true∧Bs=[]) (true,())):=xkeep (l:=[]) (xret ⟨rfl,rfl⟩)
  have works:∀ {As:List HP}{K:Bool→WP},Ent B As (K true)→Ent B As (XCall Pr F_law26_works [] .one [.bool] K):=by
    intro As K hK
    refine xcall0 works26_spec rdb ?_
    rintro ⟨c,_⟩ _ ⟨hc,rfl⟩
    simp only at hc;subst hc
    exact app0 (ca1 hK)
  unfold law26_HistoryExact
  refine xnew fun b=>xset (h:=xget (h:=xget (h:=xget (s:=.slice) (x:=⟨none,0,0⟩) (h:=?_))))
  refine xcall0 (great26_spec s0 to ⟨none,0,0⟩ rs ps) rdb ?_
  rintro ⟨c,_⟩ _ ⟨_,rfl⟩
  refine app0 (ca1 ?_)
  refine xjoin1 (fun(x:Bool) As'=>(x=false→rs.length≤400)∧As'=[Blk b [s0.v,.int .i64 to,.slice none 0 0]]) (fun K hK=>xif (fun h=>hK _ _ ⟨fun e=>(by cases e),rfl⟩) (fun h=>xget (h:=hK _ _ ⟨fun e=>?_,rfl⟩))) ?_
  · have:¬ ((s0.n:Int)>400):=of_decide_eq_false e
    omega
  rintro c1 _ ⟨hc1,rfl⟩
  refine xif (fun h=>works fin) (fun h=>?_)
  simp only [Bool.or_eq_false_iff,decide_eq_false_iff_not] at h
  obtain ⟨⟨⟨⟨h0,h1⟩,h2⟩,h3⟩,h4⟩:=h
  have h400:=hc1 h0
  refine xget (h:=xget (h:=xget (s:=.slice) (x:=⟨none,0,0⟩) (h:=?_)))
  obtain ⟨gs,safe,f1,f2,f3,f4,f5⟩:=laidL_rel ps (by omega)
  have hcalm:calm (trimL (laidL ps).1 (laidL ps).2 to 1).1:=trim_calm ⟨f4,f5⟩ _ _ _
  have hlinv0:LInv (laidL ps).2:=by rw [f1];exact f2.linv (by omega)
  have hi:LInv (trimL (laidL ps).1 (laidL ps).2 to 1).2.1:=trim_inv hlinv0 _ _ _
  have hnx:(trimL (laidL ps).1 (laidL ps).2 to 1).2.1.next=gs.flatten.length:=by rw [trim_next,f1,next_of]
  have hlo0:=hi.lo
  have hT:∀ q p,Ct Pr F_segs_Log_Trim [.pointer q,.int .i64 to,.int .i64 1] .one [.int .i64] [LogObj q p (laidL ps).2,DevObj p (laidL ps).1] GTab (fun t Bs=>Bs=[LogObj q p (trimL (laidL ps).1 (laidL ps).2 to 1).2.1,DevObj p (trimL (laidL ps).1 (laidL ps).2 to 1).1]):=fun q p=>segTrim_spec q p (laidL ps).1 (laidL ps).2 to
  generalize (trimL (laidL ps).1 (laidL ps).2 to 1).1=m1 at *
  generalize (trimL (laidL ps).1 (laidL ps).2 to 1).2.1=lg at *
  refine xcall0 (laid26_spec s0 rs ps to ⟨none,0,0⟩ [] (by omega) (by decide) (m1,lg) hT hcalm.2 hcalm.1 (by simp only;omega)) (rds_and (rds_and rdb (rds_of fun _ _ _ _ _=>⟨rfl,rfl,fun h=>absurd h (Nat.lt_irrefl 0)⟩)) rdb) ?_
  rintro ⟨l,x,c,_⟩ _ ⟨hc,d,m,rfl⟩
  simp only at hc;subst hc
  refine app3 (ca3 (xiff rfl ?_))
  rw [show addAll (openX (m1,lg).2) []=openX lg from rfl]
  simp only
  have hN:lg.next - lg.lo≤400:=by omega
  generalize hNE:(lg.next - lg.lo).toNat=N at *
  have hXE:openX lg=openTo lg N:=by unfold openX;rw [hNE]
  obtain ⟨o1,o2,o3⟩:=openG lg N
  rw [←hXE] at o1 o2 o3
  generalize openX lg=X at *
  refine xuse [LogObj l d lg,IdxObj x d l X] ?_
  have hm0:0≤(file - 1)*span:=Int.mul_nonneg (by omega) (by omega)
  have hm1:(file - 1)*span≤65535*1048576:=Int.mul_le_mul (by omega) (by omega) (by omega) (by omega)
  have w1:IntKind.i64.wrap (IntKind.i64.wrap (file - 1)*span)=(file - 1)*span:=by rw [wrap_id (file - 1) (by omega) (by omega),wrap_id _ (by omega) (by omega)]
  have w2:IntKind.i64.wrap ((file - 1)*span+span)=(file - 1)*span+span:=wrap_id _ (by omega) (by omega)
  simp only [w1,w2]
  have e0:fileM lg X span file=if goneB lg ((file - 1)*span)=true then ([],31)
    else (rowsW lg 0 [] (rngX X ((file - 1)*span) ((file - 1)*span+span) lg.lo),0):=by unfold fileM;rw [if_neg (by omega)]
  generalize hfr:(file - 1)*span=fr at *
  refine xcl (sFirst_spec l d lg) rdb ?_
  rintro ⟨t,_⟩ _ ⟨ht,rfl⟩
  simp only at ht;subst ht
  refine app1 (ca1 ?_)
  have hQ:=cntG_le lg (inB fr (fr+span) lg.lo)
  refine xloop3 (fun n (low:Int) (many:Int) (i:Int) As'=>∃ j:Nat,i=lg.lo+j∧n=N - j∧j≤N∧many=(cntG lg (inB fr (fr+span) lg.lo) j:Int)∧((low = -1∧firstT lg N lg.lo=firstT lg (N - j) (lg.lo+j))∨(0≤low∧low=firstT lg N lg.lo))∧As'=[LogObj l d lg,IdxObj x d l X]) N ⟨0,by simp,rfl,by omega,rfl,.inl ⟨rfl,by simp⟩,rfl⟩ ?_
  rintro n low _ _ _ K ⟨j,rfl,rfl,hj,rfl,hlow,rfl⟩ hK
  refine xcl (sNext_spec l d lg) rdb ?_
  rintro ⟨t,_⟩ _ ⟨ht,rfl⟩
  simp only at ht;subst ht
  refine app1 (ca1 (xif_dec (fun hlt=>?_) (fun hlt=>?_)))
  · have hjN:j<N:=by omega
    obtain ⟨k,hk⟩:∃ k,N - j=k+1:=⟨N - j - 1,by omega⟩
    have hk2:N - (j+1)=k:=by omega
    refine hjoin2 (fun(lo2 ma2:Int) As'=>ma2=(cntG lg (inB fr (fr+span) lg.lo) (j+1):Int)∧((lo2 = -1∧firstT lg N lg.lo=firstT lg (N - (j+1)) (lg.lo+(j+1:Nat)))∨(0≤lo2∧lo2=firstT lg N lg.lo))∧As'=[LogObj l d lg,IdxObj x d l X]) (fun K1 hK1=>?_) ?_
    · refine xcl (at_spec l d lg (lg.lo+j) ⟨by omega,by omega⟩) rdb ?_
      rintro _ _ ⟨rfl,rfl⟩
      refine app1 (ca6 (xnew fun b1=>?_))
      iterate 5 (refine xset (h:=?_))
      rw [rec_ok]
      have hft:firstT lg (N - j) (lg.lo+j)=if okG lg (lg.lo+j) then (recAtM lg (lg.lo+j)).1.time else firstT lg k (lg.lo+j+1):=by rw [hk,firstT]
      cases hok:okG lg (lg.lo+j) with
      | false=>
        rw [hok,if_neg (by simp)] at hft
        refine xift rfl ?_
        refine xuse' (hK1 _ _ _ ⟨?_,?_,rfl⟩)
        · rw [cntG_succ,hok];rfl
        · rcases hlow with ⟨q1,q2⟩ | ⟨q1,q2⟩
          · refine .inl ⟨q1,?_⟩
            rw [q2,hft,hk2];congr 1;omega
          · exact .inr ⟨q1,q2⟩
      | true=>
        rw [hok,if_pos rfl] at hft
        have htm:=rec_time hok
        have hin:=inG (lg:=lg) (n:=lg.lo+j) (fr:=fr) (span:=span) (lo:=lg.lo) hok (by omega) (by omega)
        refine xiff rfl ?_
        refine xjoin1 (fun(lo2:Int) As'=>(0≤lo2∧lo2=firstT lg N lg.lo)∧As'=[Blk b1 (recAtM lg (lg.lo+j)).1.cells,LogObj l d lg,IdxObj x d l X]) (fun K2 hK2=>xif_dec (fun h5=>xget (h:=hK2 _ _ ⟨⟨htm,?_⟩,rfl⟩)) (fun h5=>hK2 _ _ ⟨?_,rfl⟩)) ?_
        · rcases hlow with ⟨q1,q2⟩ | ⟨q1,q2⟩
          · rw [q2,hft]
          · omega
        · rcases hlow with ⟨q1,q2⟩ | ⟨q1,q2⟩
          · omega
          · exact ⟨q1,q2⟩
        rintro lo2 _ ⟨hlo2,rfl⟩
        refine xget (h:=?_)
        refine xjoin1 (fun(c:Bool) As'=>c=(decide ((recAtM lg (lg.lo+j)).1.time≥fr)&&decide ((recAtM lg (lg.lo+j)).1.time<fr+span))∧As'=[LogObj l d lg,IdxObj x d l X]) (fun K2 hK2=>xif (fun h3=>xget (h:=xuse' (hK2 _ _ ⟨?_,rfl⟩))) (fun h3=>xuse' (hK2 _ _ ⟨?_,rfl⟩))) ?_
        · have h3':decide ((recAtM lg (lg.lo+j)).1.time≥fr)=true:=h3
          rw [h3'];rfl
        · have h3':decide ((recAtM lg (lg.lo+j)).1.time≥fr)=false:=h3
          rw [h3'];rfl
        rintro _ _ ⟨rfl,rfl⟩
        have hc9:=hQ j
        refine xjoin1 (fun(ma:Int) As'=>ma=(cntG lg (inB fr (fr+span) lg.lo) (j+1):Int)∧As'=[LogObj l d lg,IdxObj x d l X]) (fun K2 hK2=>xif (fun h3=>hK2 _ _ ⟨?_,rfl⟩) (fun h3=>hK2 _ _ ⟨?_,rfl⟩)) ?_
        · rw [cntG_succ,hok,hin,h3,wrap_succ _ (by omega)];rfl
        · rw [cntG_succ,hok,hin,h3];rfl
        rintro _ _ ⟨rfl,rfl⟩
        exact hK1 _ _ _ ⟨rfl,.inr hlo2,rfl⟩
    · rintro lo2 _ _ ⟨rfl,hl2,rfl⟩
      rw [wrap_id _ (by omega) (by omega)]
      exact hK (N - (j+1)) _ _ _ _ (by omega) ⟨j+1,by omega,rfl,by omega,rfl,hl2,rfl⟩
  have hjN:j=N:=by omega
  subst hjN
  have hlow2:low=firstT lg j lg.lo:=by
    rcases hlow with ⟨q1,q2⟩ | ⟨_,q2⟩
    · rw [q1,q2,Nat.sub_self,firstT]
    · exact q2
  have hXl:X.L.length≤1000000:=by
    have:=o3 fun _=>true
    rw [List.filter_eq_self.2 (fun _ _=>rfl)] at this
    have h9:=cntG_le lg (fun _=>true) j
    omega
  have hXi:∀ y∈X.L,i64 y.2:=fun y hy=>by
    obtain ⟨i,a1,a2,rfl⟩:=(o2 y).1 hy
    show i64 (lg.lo+i)
    exact ⟨by omega,by omega⟩
  refine xcl (File_spec l x d lg X span file hXl hXi) rdb ?_
  rintro ⟨s5,e5,_⟩ _ ⟨he5,rfl⟩
  simp only at he5;subst he5
  refine app3 (ca2 ?_)
  simp only
  rw [e0]
  refine xcl (sFirst_spec l d lg) rdb ?_
  rintro ⟨t,_⟩ _ ⟨ht,rfl⟩
  simp only at ht;subst ht
  refine app1 (ca1 ?_)
  generalize hwsE:(if goneB lg fr=true then (([],31):List Int×Int) else (rowsW lg 0 [] (rngX X fr (fr+span) lg.lo),0))=wsE at *
  refine xuse [LogObj l d lg,IdxObj x d l X,Ar W16 s5 wsE.1] ?_
  refine xjoin1 (fun(c:Bool) As'=>c=goneB lg fr∧As'=[LogObj l d lg,IdxObj x d l X,Ar W16 s5 wsE.1]) (fun K1 hK1=>xif_dec (fun h5=>hK1 _ _ ⟨?_,rfl⟩) (fun h5=>hK1 _ _ ⟨?_,rfl⟩)) ?_
  · unfold goneB
    rw [if_neg (by omega),hNE,gone_first,hlow2]
  · unfold goneB
    rw [if_pos (by omega)]
  rintro _ _ ⟨rfl,rfl⟩
  refine xlen (E:=W16) (xs:=wsE.1) s5 fun hs5n hs5c=>?_
  refine xif (fun h5=>?_) (fun h5=>?_)
  · rw [if_pos h5] at hwsE
    subst hwsE
    refine xjoin (xift ?_ (works fin))
    have:(0:Nat)=s5.n:=hs5n
    rw [←this];rfl
  rw [if_neg (by rw [h5];simp)] at hwsE
  subst hwsE
  simp only at hs5n ⊢
  rw [rng_keys] at hs5n ⊢
  have hsk:SrtK (X.L.filter (inB fr (fr+span) lg.lo)):=o1.sublist List.filter_sublist
  have hin:∀ y∈X.L.filter (inB fr (fr+span) lg.lo),∃ i:Nat,i<j∧okG lg (lg.lo+i)=true∧y=keyG lg (lg.lo+i)∧inB fr (fr+span) lg.lo (keyG lg (lg.lo+i))=true:=fun y hy=>by
    obtain ⟨h1,h2⟩:=List.mem_filter.1 hy
    obtain ⟨i,a1,a2,rfl⟩:=(o2 y).1 h1
    exact ⟨i,a1,a2,rfl,h2⟩
  have hKl:(X.L.filter (inB fr (fr+span) lg.lo)).length=cntG lg (inB fr (fr+span) lg.lo) j:=o3 _
  rw [←hKl]
  have hKj:=hQ j
  rw [←hKl] at hKj
  generalize X.L.filter (inB fr (fr+span) lg.lo)=ks at *
  have hall:∀ n∈sndK ks,okG lg n=true∧0≤n∧n≤1099511627776:=fun n hn=>by
    unfold sndK at hn
    obtain ⟨y,hy,rfl⟩:=List.mem_map.1 hn
    obtain ⟨i,a1,a2,rfl,_⟩:=hin y hy
    exact ⟨a2,by show 0≤lg.lo+i;omega,by show lg.lo+i≤_;omega⟩
  have hrows:=rows_all lg (sndK ks) 0 [] hall (by rw [sndK_len];omega)
  rw [List.nil_append] at hrows
  rw [hrows] at hs5n ⊢
  have hrl22:∀ n,(rowM n (recAtM lg n).1).length=22:=fun n=>rowM_len n _
  have hfl:=flat_len (fun n=>rowM n (recAtM lg n).1) hrl22 (sndK ks)
  rw [sndK_len] at hfl
  have wm:IntKind.i64.wrap (22*(ks.length:Int))=((22*ks.length:Nat):Int):=by rw [wrap_id _ (by omega) (by omega)];omega
  refine xiff ?_ ?_
  · rw [wm,←hs5n,hfl];simp
  refine xnew fun b2=>xset (h:=xset (h:=?_))
  generalize hws:(sndK ks).flatMap (fun n=>rowM n (recAtM lg n).1)=ws at *
  refine xloop1 (fun n (i:Int) As'=>∃ (k:Nat) (bt bs:Int),i=(k:Int)∧n=ks.length - k∧k≤ks.length∧(k=0→bt = -1)∧(∀ q,k=q+1→ks[q]? = some (bt,bs))∧As'=[Blk b2 [.int .i64 bt,.int .i64 bs],LogObj l d lg,IdxObj x d l X,Ar W16 s5 ws])
    ks.length ⟨0,-1,0,rfl,rfl,by omega,fun _=>rfl,fun q h=>by omega,rfl⟩ ?_
  rintro n _ _ K ⟨k,bt,bs,rfl,rfl,hk,hb0,hb1,rfl⟩ hK
  refine xif_dec (fun hlt2=>?_) (fun hlt2=>works fin)
  have hkl:k<ks.length:=by omega
  obtain ⟨y,hy⟩:∃ y,ks[k]? = some y:=⟨_,List.getElem?_eq_getElem hkl⟩
  obtain ⟨i,hi1,hi2,rfl,hi3⟩:=hin y (List.mem_of_getElem? hy)
  have hnn:=sndK_get hy
  rw [inG hi2 (by omega) (by omega)] at hi3
  simp only [Bool.and_eq_true,decide_eq_true_eq] at hi3
  obtain ⟨t1,t2⟩:=hi3
  have htm:=rec_time hi2
  obtain ⟨hrec1,hrec2⟩:=rec_is hi2
  have hkeyE:=keyG_rec hi2
  have hrow:(ws.take (22*(k+1))).drop (22*k)=rowM (lg.lo+i) (recAtM lg (lg.lo+i)).1:=by
    rw [←hws];exact flat_row (fun n=>rowM n (recAtM lg n).1) hrl22 hnn
  obtain ⟨p1,p2⟩:=row_told (seq:=lg.lo+i) (r:=(recAtM lg (lg.lo+i)).1) ⟨by omega,by omega⟩ hrec2
  have hbt:bt≤(recAtM lg (lg.lo+i)).1.time∧(bt=(recAtM lg (lg.lo+i)).1.time→bs<lg.lo+i):=by
    cases k with
    | zero=>rw [hb0 rfl];exact ⟨by omega,fun e=>by omega⟩
    | succ q=>
      have hq:=hb1 q rfl
      have hql:q<ks.length:=by omega
      have:=List.pairwise_iff_getElem.1 hsk q (q+1) hql hkl (by omega)
      have ej:ks[q]=(bt,bs):=by rw [List.getElem?_eq_getElem hql] at hq;exact Option.some.inj hq
      have ek:ks[q+1]=keyG lg (lg.lo+i):=by rw [List.getElem?_eq_getElem hkl] at hy;exact Option.some.inj hy
      rw [ej,ek,hkeyE,ltK_iff] at this
      have h':bt<(recAtM lg (lg.lo+i)).1.time∨(bt=(recAtM lg (lg.lo+i)).1.time∧bs<lg.lo+i):=this
      omega
  generalize hRE:(recAtM lg (lg.lo+i)).1=R at *
  have wa:IntKind.i64.wrap ((k:Int)*22)=((22*k:Nat):Int):=by rw [wrap_id _ (by omega) (by omega)];omega
  have wb:IntKind.i64.wrap (IntKind.i64.wrap ((k:Int)+1)*22)=((22*(k+1):Nat):Int):=by rw [wrap_succ k (by omega),wrap_id _ (by omega) (by omega)];omega
  rw [wa,wb]
  have hwl:ws.length=22*ks.length:=hfl
  refine xslc (by omega) (by omega) (by omega) (by omega) ?_
  simp only [Int.toNat_natCast]
  have hcut:Rds B [Blk b2 [.int .i64 bt,.int .i64 bs],LogObj l d lg,IdxObj x d l X,Ar W16 s5 ws] (RAr W16 (s5.cut (22*k) (22*(k+1)) s5.c 1) (rowM (lg.lo+i) R)):=by
    refine rds_of fun g hg hF hs hm=>?_
    have hs:=star_perm (inferInstance:Find (Ar W16 s5 ws) [Blk b2 [.int .i64 bt,.int .i64 bs],LogObj l d lg,IdxObj x d l X,Ar W16 s5 ws] _).perm hs
    obtain ⟨a1,_,p1,_,_,t1,_⟩:=hs
    have:=(p1.read.mono (t1.trans hm)).cut (22*k) (22*(k+1)) s5.c (by omega) (by omega) (by omega)
    rw [hrow] at this
    exact this
  refine xcall0 (told_spec (s5.cut (22*k) (22*(k+1)) s5.c 1) (rowM (lg.lo+i) R) (rowM_len _ _) p2 (by show 22*(k+1) - 22*k≤s5.c - 22*k;omega)) hcut ?_
  rintro _ _ ⟨rfl,rfl⟩
  rw [p1]
  refine app0 (ca6 (xnew fun b3=>?_))
  iterate 5 (refine xset (h:=?_))
  refine xcl (at_spec l d lg (lg.lo+i) ⟨by omega,by omega⟩) rdb ?_
  rintro _ _ ⟨rfl,rfl⟩
  rw [hRE,rec_ok,hi2]
  refine app1 (ca6 (xnew fun b4=>?_))
  iterate 5 (refine xset (h:=?_))
  refine xjoin (xiff rfl ?_)
  iterate 10 (refine xget (h:=?_))
  refine xjoin (xiff (by simp [ba_beq]) (xget (h:=?_)))
  refine xjoin (xiff (by rw [decide_eq_false_iff_not];show ¬ (R.time<fr);omega) (xget (h:=?_)))
  refine xjoin (xiff (by rw [decide_eq_false_iff_not];show ¬ (R.time≥fr+span);omega) (xget (h:=xget (h:=?_))))
  refine xjoin (xiff (by rw [decide_eq_false_iff_not];show ¬ (R.time<bt);omega) (xget (h:=xget (h:=?_))))
  have last:Ent B [Blk b4 R.cells,LogObj l d lg,Blk b3 R.cells,Blk b2 [.int .i64 bt,.int .i64 bs],IdxObj x d l X,Ar W16 s5 ws]
      (XGet (.int .i64) ⟨b3,1,none⟩ fun(n21:Int)=>XSet ⟨b2,0,none⟩ (.int .i64 n21)<|XSet ⟨b2,1,none⟩ (.int .i64 (lg.lo+i))<|K (IntKind.i64.wrap ((k:Int)+1))):=by
    refine xget (h:=xset (h:=xset (h:=?_)))
    rw [wrap_succ k (by omega)]
    refine xuse' (hK (ks.length - (k+1)) _ _ (by omega) ⟨k+1,R.time,lg.lo+i,rfl,rfl,by omega,fun h=>by omega,fun q hq=>?_,rfl⟩)
    obtain rfl:q=k:=by omega
    rw [hy,hkeyE]
  refine xjoin (xif (fun he=>?_) (fun he=>xiff rfl (xuse' last)))
  refine xget (h:=xiff ?_ (xuse' last))
  rw [decide_eq_false_iff_not]
  have:=hbt.2 (eq_of_beq he).symm
  show ¬ (lg.lo+(i:Int)≤bs)
  omega
end Go.Cx
namespace Go.Cx
open Go Go.Cf
set_option linter.unusedVariables false
set_option maxRecDepth 100000
variable {B:Base}{As F:List HP}{α:Type}
theorem great26b_spec (s0:Sl) (to:Int) (s2:Sl) (rs:List Sl) (ps:List (List UInt8)):Ct Pr F_law26_great [.agg #[s0.v,.int .i64 to,s2.v]] .one [.bool] [] (RowsAt s0 rs ps) (fun t Bs=>(t.1=false→ps.length≤600∧s2.n≤100)∧Bs=[]):=by
  refine spec1 c_law26_great fun B hr=>?_
  obtain ⟨ha,hl,hrow⟩:=hr
  haveI:Fro B s0 SL rs:=⟨ha⟩
  have h1:=ha.1
  unfold law26_great
  have fin:∀ {As:List HP},Ent B As (Ret B (ss:=[.bool]) (fun t Bs=>(t.1=false→ps.length≤600∧s2.n≤100)∧Bs=[]) (true,())):=xkeep (l:=[]) (xret ⟨fun e=>(by cases e),rfl⟩)
  refine xnew fun b=>xget (h:=?_)
  refine xjoin1 (fun(c:Bool) As'=>(c=false→rs.length≤600∧s2.n≤100)∧As'=[Blk b [s0.v,.int .i64 to,s2.v]]) (fun K hK=>xif_dec (fun h=>hK _ _ ⟨fun e=>by (cases e),rfl⟩) (fun h=>xget (h:=hK _ _ ⟨fun hh=>(by simp at hh;omega),rfl⟩))) ?_
  rintro c _ ⟨hc,rfl⟩
  refine xif (fun h=>fin) (fun h=>?_)
  obtain ⟨h600,h100⟩:=hc h
  refine xloop2 (fun m (n:Int) (x:Int) As'=>∃ k:Nat,x=(k:Int)∧m=rs.length - k∧k≤rs.length∧As'=[Blk b [s0.v,.int .i64 to,s2.v]]) rs.length ⟨0,rfl,rfl,by omega,rfl⟩ ?_
  rintro m n x As' K ⟨k,rfl,rfl,hk,rfl⟩ hK
  refine xget (h:=xif_dec (fun hp=>?_) (fun hp=>xkeep (l:=[]) (xret ⟨fun _=>⟨by omega,h100⟩,rfl⟩)))
  refine xget (h:=?_)
  refine xidxn (E:=SL) (xs:=rs) (s:=s0) (h1:=by omega) (h:=fun r hr=>?_)
  refine xgetE (E:=SL) (xs:=rs) hr (h:=xif_dec (fun h2=>fin) (fun h2=>xget (h:=?_)))
  refine xidxn (E:=SL) (xs:=rs) (s:=s0) (h1:=by omega) (h:=fun r' hr'=>?_)
  refine xgetE (E:=SL) (xs:=rs) hr' (h:=xif_dec (fun h2=>fin) (fun h2=>?_))
  rw [wrap_succ k (by omega)]
  exact hK _ _ _ _ (by omega) ⟨k+1,rfl,rfl,by omega,rfl⟩
end Go.Cx
namespace Go.Cx
open Go Go.Cf
set_option linter.unusedVariables false
set_option maxRecDepth 100000
variable {B:Base}{As F:List HP}{α:Type}
theorem ins_of {k y:KY}{l:List KY}(h:y∈insK k l):y=k∨y∈l:=by
  unfold insK at h
  split at h
  · exact .inr h
  · simp only [List.mem_append,List.mem_cons,List.mem_filter] at h
    rcases h with h | h | h
    · exact .inr h.1
    · exact .inl h
    · exact .inr h.1
theorem addX_i64 {X:XM}(k:KY) (h:∀ y∈X.L,i64 y.2):∀ y∈(addX X k).L,i64 y.2:=by
  intro y hy
  unfold addX at hy
  split at hy
  · exact h y hy
  · split at hy
    · exact h y hy
    · unfold putX at hy
      simp only at hy
      rcases ins_of hy with rfl | hy
      · exact ⟨by omega,by omega⟩
      · exact h y hy
theorem addAll_i64:∀ (ys:List KY) (X:XM),(∀ y∈X.L,i64 y.2)→∀ y∈(addAll X ys).L,i64 y.2
  | [],X,h=>h
  | k::ys,X,h=>addAll_i64 ys (addX X k) (addX_i64 k h)
end Go.Cx
