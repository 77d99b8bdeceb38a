/-
  A file of the document's; the law HistoryFiles.
  Requests lent and looked at again; answers held against one another and written over.
  Answers held against one another, written over; requests; the document's answer to a request.
  The document's check of a request for pieces of files; its answer.
  The document's answer to a request.
  The law HistoryDoes.
  The law HistoryKnown: the stores that it makes.
  The law HistoryKnown.
  The arguments of the history's laws as they come in: a store, tables.
-/
import Derived.Test.YtifochbabgjhpaaGreatDoorVY
import Derived.Test.YtifochbabgjhpaaGreatDoorTX
import Derived.Test.YtifochbabgjhpaaGreatDoorFN
import Derived.Test.YtifochbabgjhpaaGreatDoorDK
import Derived.Test.YtifochbabgjhpaaGreatDoorS1
import Derived.Test.YtifochbabgjhpaaGreatDoorT1
import Derived.Test.YtifochbabgjhpaaGreatDoorA3
import Derived.OpenShut
import Derived.WalkKit
import Derived.ProofKit
import Derived.Lib.LaidTab
import Derived.LaidLaws
namespace Go.Cx
open Go Go.Cf
set_option linter.unusedVariables false
set_option maxRecDepth 100000
variable {B:Base}{As F:List HP}{α:Type}
theorem rowsW_full (lg:LM):∀ (ns:List Int) (rows:Nat) (out:List Int),454≤rows→rowsW lg rows out ns=out
  | [],_,_,_=>rfl
  | n::ns,rows,out,h=>by
    rw [rowsW]
    split
    · exact rowsW_full lg ns rows out h
    · rw [if_pos (by omega)]
theorem rowsW_len (lg:LM):∀ (ns:List Int) (rows:Nat) (out:List Int),out.length≤22*rows→rows≤454→(rowsW lg rows out ns).length≤9988
  | [],rows,out,h,h2=>by rw [rowsW];omega
  | n::ns,rows,out,h,h2=>by
    rw [rowsW]
    split
    · exact rowsW_len lg ns rows out h h2
    · split
      · omega
      · have:=wordsM_len n (recAtM lg n).1
        exact rowsW_len lg ns _ _ (by rw [List.length_append];omega) (by omega)
theorem fileM_len (lg:LM) (X:XM) (span file:Int):(fileM lg X span file).1.length≤9988:=by
  unfold fileM
  split
  · simp
  · split
    · simp
    · exact rowsW_len lg _ 0 [] (by simp) (by omega)
theorem rFile26_spec (l x d:Option Addr) (lg:LM) (X:XM) (span file:Int):Ct Pr F_ref26_File [.pointer l,.pointer x,.int .i64 span,.int .i64 file] (.tup [none,none]) [.slice,.int .i64] [RLogObj l d lg,RIdxObj x d l X] emp
    (fun t Bs=>t.2.1=(fileM lg X span file).2∧Bs=[RLogObj l d lg,RIdxObj x d l X,Ar W16 t.1 (fileM lg X span file).1]):=by
  refine spec2 c_ref26_File fun B _=>?_
  unfold ref26_File
  refine xfact 1 (P1:=RIdxObj x d l X) (fun g hg=>hg.1) fun hXi=>?_
  refine xif (fun h=>?_) (fun h=>?_)
  · have e:fileM lg X span file=([],3):=by unfold fileM;rw [if_pos (by simp at h;omega)]
    exact xnone W16 (xuse [RLogObj l d lg,RIdxObj x d l X,Ar W16 ⟨none,0,0⟩ []] (xret ⟨by rw [e],by rw [e]⟩))
  have hr:1≤span∧span≤1048576∧1≤file∧file≤65535:=by simp at h;omega
  obtain ⟨r1,r2,r3,r4⟩:=hr
  have hm0:0≤(file - 1)*span:=Int.mul_nonneg (by omega) (by omega)
  have hm1:(file - 1)*span≤65535*1048576:=Int.mul_le_mul (by omega) r2 (by omega) (by omega)
  have hm2:file*span=(file - 1)*span+span:=by rw [Int.sub_mul];omega
  have w1:IntKind.i64.wrap (IntKind.i64.wrap (file - 1)*span)=(file - 1)*span:=by rw [wrap_id (file - 1) (by omega) (by omega),wrap_id _ (by omega) (by omega)]
  rw [w1,hm2,wrap_id ((file - 1)*span+span) (by omega) (by omega)]
  have e0:fileM lg X span file=if goneB lg ((file - 1)*span)=true then ([],31)
    else (rowsW lg 0 [] (rngX X ((file - 1)*span) ((file - 1)*span+span) lg.lo),0):=by unfold fileM;rw [if_neg (by omega)]
  generalize hfr:(file - 1)*span=fr at *
  refine xcl (rGone26_spec l d lg fr) rdb ?_
  rintro ⟨c,_⟩ _ ⟨hc,rfl⟩
  simp only at hc;subst hc
  refine app1 (ca1 (xif (fun h=>?_) (fun h=>?_)))
  · rw [if_pos h] at e0
    exact xnone W16 (xuse [RLogObj l d lg,RIdxObj x d l X,Ar W16 ⟨none,0,0⟩ []] (xret ⟨by rw [e0],by rw [e0]⟩))
  rw [if_neg (by rw [h];simp)] at e0
  refine xrlo ?_
  refine xcl (rRange_spec x d l X fr (fr+span) lg.lo) rdb ?_
  rintro ⟨s,_⟩ _ rfl
  refine app2 (ca1 ?_)
  have hns:∀ n∈rngX X fr (fr+span) lg.lo,0≤n:=fun n hn=>by
    unfold rngX selK rngK at hn
    obtain ⟨y,hy,rfl⟩:=List.mem_map.1 hn
    exact (hXi.top y (List.mem_filter.1 (List.mem_filter.1 hy).1).1).1
  have hnl:(rngX X fr (fr+span) lg.lo).length≤1000000:=by
    unfold rngX selK rngK
    rw [List.length_map]
    exact Nat.le_trans (List.length_filter_le _ _) (Nat.le_trans (List.length_filter_le _ _) hXi.len)
  generalize hnsE:rngX X fr (fr+span) lg.lo=ns at *
  refine xlen (E:=I64) (xs:=ns) s fun hsn _=>?_
  simp only
  refine xnone W16 ?_
  refine xuse [Ar W16 ⟨none,0,0⟩ [],RLogObj l d lg,RIdxObj x d l X,Ar I64 s ns] ?_
  refine xloop3 (fun n (rows:Int) (out:Sl) (z:Int) As'=>∃ (k rw':Nat) (ws:List Int),z=(k:Int)∧rows=(rw':Int)∧n=ns.length - k∧k≤ns.length∧rw'≤454∧ws.length≤22*rw'∧rowsW lg rw' ws (ns.drop k)=rowsW lg 0 [] ns∧As'=[Ar W16 out ws,RLogObj l d lg,RIdxObj x d l X,Ar I64 s ns]) ns.length ⟨0,0,[],rfl,rfl,by omega,by omega,by omega,by simp,rfl,rfl⟩ ?_
  rintro n _ out _ _ K ⟨k,rw',ws,rfl,rfl,rfl,hk,hrw,hws,hrows,rfl⟩ hK
  refine xif (fun hlt=>?_) (fun hlt=>?_)
  · simp only [Bool.and_eq_true,decide_eq_true_eq] at hlt
    obtain ⟨hlt,hmany⟩:=hlt
    have hkl:k<ns.length:=by omega
    have hy:=List.getElem?_eq_getElem hkl
    have hdrop:ns.drop k=ns[k]::ns.drop (k+1):=List.drop_eq_getElem_cons hkl
    have h0:=hns _ (List.getElem_mem hkl)
    generalize ns[k]=m at *
    rw [hdrop,rowsW] at hrows
    have next:∀ (rw2:Nat) (ws2:List Int) (out2:Sl),rw2≤454→ws2.length≤22*rw2→rowsW lg rw2 ws2 (ns.drop (k+1))=rowsW lg 0 [] ns→Ent B [Ar W16 out2 ws2,RLogObj l d lg,RIdxObj x d l X,Ar I64 s ns] (K (rw2:Int) out2 (IntKind.i64.wrap ((k:Int)+1))):=fun rw2 ws2 out2 q1 q2 q3=>by
      rw [wrap_succ k (by omega)]
      exact hK (ns.length - (k+1)) _ _ _ _ (by omega) ⟨k+1,rw2,ws2,rfl,rfl,rfl,by omega,q1,q2,q3,rfl⟩
    refine xjoin ?_
    refine xidxn (E:=I64) (xs:=ns) (s:=s) (h1:=hkl) (h:=fun _ _=>?_)
    refine xgetE (E:=I64) (xs:=ns) hy (h:=?_)
    refine xcl (rRec26_spec l d lg m) rdb ?_
    rintro ⟨q1,q2,q3,q4,q5,c,_⟩ _ ⟨hc,hf,rfl⟩
    simp only at hc hf;subst hc
    refine app1 (ca6 (xnew fun b=>?_))
    iterate 5 (refine xset (h:=?_))
    refine xif (fun h1=>?_) (fun h1=>?_)
    · have h1':(recAtM lg m).2=false:=by simpa using h1
      rw [if_pos h1'] at hrows
      exact xuse' (next rw' ws out hrw hws hrows)
    · have h1':(recAtM lg m).2=true:=by simpa using h1
      obtain ⟨rfl,rfl,rfl,rfl,rfl⟩:=hf h1'
      rw [if_neg (by rw [h1'];simp),if_neg (by omega)] at hrows
      have hck:checkR (recAtM lg m).1=0:=by
        unfold recAtM at h1' ⊢
        split at h1'
        · cases h1'
        · rename_i hz
          rw [if_neg hz]
          exact getM_check (by simpa using h1')
      have hwl:=wordsM_len m (recAtM lg m).1
      refine xidxn (E:=I64) (xs:=ns) (s:=s) (h1:=hkl) (h:=fun _ _=>?_)
      refine xgetE (E:=I64) (xs:=ns) hy (h:=xjoin ?_)
      have fin:∀ (out2:Sl) {As2 G:List HP} [Split [Ar W16 out2 (ws++(wordsM m (recAtM lg m).1).1),RLogObj l d lg,RIdxObj x d l X,Ar I64 s ns] As2 G],Ent B As2 (K (IntKind.i64.wrap ((rw':Int)+1)) out2 (IntKind.i64.wrap ((k:Int)+1))):=by
        intro out2 As2 G _
        rw [wrap_succ rw' (by omega)]
        exact xuse [Ar W16 out2 (ws++(wordsM m (recAtM lg m).1).1),RLogObj l d lg,RIdxObj x d l X,Ar I64 s ns] (next (rw'+1) _ out2 (by omega) (by rw [List.length_append];omega) hrows)
      refine xif_dec (fun h2=>?_) (fun h2=>?_)
      · have ew:(wordsM m (recAtM lg m).1).1=rowM m (recAtM lg m).1:=by unfold wordsM;rw [if_neg (by rw [hck];simp),if_neg (by omega)]
        refine xdraw ?_
        refine xidxn (E:=I64) (xs:=ns) (s:=s) (h1:=hkl) (h:=fun _ _=>?_)
        refine xgetE (E:=I64) (xs:=ns) hy (h:=?_)
        iterate 5 (refine xget (h:=?_))
        refine xcall0 (rRow_spec m (recAtM lg m).1) rdb ?_
        rintro ⟨s1,_⟩ _ rfl
        refine app1 (ca1 ?_)
        rw [←ew]
        simp only
        refine xapp (E:=W16) (s:=out) (ys:=(wordsM m (recAtM lg m).1).1) (hb:=by omega) (h:=fun s2=>?_)
        exact fin s2
      · have ew:(wordsM m (recAtM lg m).1).1=[]:=by unfold wordsM;rw [if_neg (by rw [hck];simp),if_pos (by omega)]
        have e9:ws=ws++(wordsM m (recAtM lg m).1).1:=by rw [ew,List.append_nil]
        have:=@fin out
        rw [←e9] at this
        exact this
  · have hend:rowsW lg rw' ws (ns.drop k)=ws:=by
      simp only [Bool.and_eq_false_iff,decide_eq_false_iff_not] at hlt
      rcases hlt with h | h
      · rw [List.drop_eq_nil_of_le (by omega),rowsW]
      · exact rowsW_full lg _ _ _ (by omega)
    rw [hend] at hrows
    rw [hrows]
    exact xuse [RLogObj l d lg,RIdxObj x d l X,Ar W16 out (rowsW lg 0 [] ns)] (xret ⟨by rw [e0],by rw [e0]⟩)
theorem files_law (s0:Sl) (rs:List Sl) (ps:List (List UInt8)) (to:Int) (s2:Sl) (ys:List KY) (span file:Int):Ct Pr F_law26_HistoryFiles [.agg #[s0.v,.int .i64 to,s2.v],.int .i64 span,.int .i64 file] .one [.bool] [] (((RowsAt s0 rs ps).and (RAr KE s2 ys)).and GTab) (fun t Bs=>t.1=true∧Bs=[]):=by
  refine spec1 c_law26_HistoryFiles fun B hr=>?_
  obtain ⟨⟨hrows,hkeys⟩,hg⟩:=hr
  haveI:FroP B GTab:=⟨hg,fun _ _ h s=>GTab.mono _ _ h s⟩
  haveI:FroP B (RowsAt s0 rs ps):=⟨hrows,fun g h ⟨x1,x2,x3⟩ s=>⟨x1.mono s,x2,fun i r x hr hx=>(x3 i r x hr hx).mono s⟩⟩
  haveI:Fro B s2 KE ys:=⟨hkeys⟩
  have hyn:ys.length=s2.n:=hkeys.1
  have hrl:rs.length=ps.length:=hrows.2.1
  have hsn0:rs.length=s0.n:=hrows.1.1
  have fin:∀ {As:List HP},Ent B As (Ret B (ss:=[.bool]) (fun t Bs=>t.1=true∧Bs=[]) (true,())):=xkeep (l:=[]) (xret ⟨rfl,rfl⟩)
  have works:∀ {As:List HP}{K:Bool→WP},Ent B As (K true)→Ent B As (XCall Pr F_law26_works [] .one [.bool] K):=by
    intro As K hK
    refine xcall0 works26_spec rdb ?_
    rintro ⟨c,_⟩ _ ⟨hc,rfl⟩
    simp only at hc;subst hc
    exact app0 (ca1 hK)
  unfold law26_HistoryFiles
  refine xnew fun b=>xget (h:=xget (h:=xget (h:=?_)))
  refine xcall0 (great26b_spec s0 to s2 rs ps) rdb ?_
  rintro ⟨c,_⟩ _ ⟨hc,rfl⟩
  simp only at hc
  refine app0 (ca1 (xif (fun h=>works fin) (fun h=>?_)))
  obtain ⟨h600,h100⟩:=hc h
  refine xget (h:=xget (h:=xget (h:=?_)))
  obtain ⟨gs,safe,f1,f2,f3,f4,f5⟩:=laidL_rel ps (by omega)
  have hcalm:calm (trimL (laidL ps).1 (laidL ps).2 to 1).1:=trim_calm ⟨f4,f5⟩ _ _ _
  have hlinv0:LInv (laidL ps).2:=by rw [f1];exact f2.linv (by omega)
  have hi:LInv (trimL (laidL ps).1 (laidL ps).2 to 1).2.1:=trim_inv hlinv0 _ _ _
  have hnx:(trimL (laidL ps).1 (laidL ps).2 to 1).2.1.next=gs.flatten.length:=by rw [trim_next,f1,next_of]
  have hlo0:=hi.lo
  have hT:∀ q p,Ct Pr F_segs_Log_Trim [.pointer q,.int .i64 to,.int .i64 1] .one [.int .i64] [LogObj q p (laidL ps).2,DevObj p (laidL ps).1] GTab (fun t Bs=>Bs=[LogObj q p (trimL (laidL ps).1 (laidL ps).2 to 1).2.1,DevObj p (trimL (laidL ps).1 (laidL ps).2 to 1).1]):=fun q p=>segTrim_spec q p (laidL ps).1 (laidL ps).2 to
  have hsaid:=said26_spec s0 rs ps to s2 ys (by omega) (by omega)
  generalize (trimL (laidL ps).1 (laidL ps).2 to 1).1=m1 at *
  generalize (trimL (laidL ps).1 (laidL ps).2 to 1).2.1=lg at *
  refine xcall0 (laid26_spec s0 rs ps to s2 ys (by omega) (by omega) (m1,lg) hT hcalm.2 hcalm.1 (by simp only;omega)) (rds_and (rds_and rdb rdb) rdb) ?_
  rintro ⟨l,x,c,_⟩ _ ⟨hc1,d,m,rfl⟩
  simp only at hc1;subst hc1
  refine app3 (ca3 (xiff rfl ?_))
  simp only
  refine xget (h:=xget (h:=xget (h:=?_)))
  refine xcall0 hsaid (rds_and rdb rdb) ?_
  rintro ⟨l2,x2,_⟩ _ ⟨d2,m2,rfl⟩
  refine app3 (ca2 ?_)
  simp only
  have hal:=addAll_len ys (openX lg)
  have hai:=addAll_i64 ys (openX lg)
  have hN:lg.next - lg.lo≤600:=by omega
  obtain ⟨o1,o2,o3⟩:=openG lg (lg.next - lg.lo).toNat
  rw [show openTo lg (lg.next - lg.lo).toNat=openX lg from rfl] at o1 o2 o3
  have hXl0:(openX lg).L.length≤600:=by
    have:=o3 fun _=>true
    rw [List.filter_eq_self.2 (fun _ _=>rfl)] at this
    have h9:=cntG_le lg (fun _=>true) (lg.next - lg.lo).toNat
    omega
  have hXi:=hai fun y hy=>by
    obtain ⟨i,a1,a2,rfl⟩:=(o2 y).1 hy
    show i64 (lg.lo+i)
    exact ⟨by omega,by omega⟩
  have hXl:(addAll (openX lg) ys).L.length≤1000000:=by omega
  generalize addAll (openX lg) ys=X at *
  have hfl:=fileM_len lg X span file
  refine xuse [RLogObj l2 d2 lg,RIdxObj x2 d2 l2 X,LogObj l d lg,IdxObj x d l X] ?_
  refine xcl (File_spec l x d lg X span file hXl hXi) rdb ?_
  rintro ⟨s,e,_⟩ _ ⟨he,rfl⟩
  simp only at he;subst he
  refine app3 (ca2 ?_)
  simp only
  refine xcl (File_spec l x d lg X span file hXl hXi) rdb ?_
  rintro ⟨s1,e,_⟩ _ ⟨he,rfl⟩
  simp only at he;subst he
  refine app3 (ca2 ?_)
  simp only
  refine xcl (rFile26_spec l2 x2 d2 lg X span file) rdb ?_
  rintro ⟨s3,e,_⟩ _ ⟨he,rfl⟩
  simp only at he;subst he
  refine app3 (ca2 ?_)
  simp only
  generalize hws:(fileM lg X span file).1=ws at *
  refine xjoin (xift (by simp) ?_)
  refine xcl (pre:=[]) (SameWords_spec s s3 ws ws (by omega)) (rds_and rdb rdb) ?_
  rintro ⟨x,_⟩ _ ⟨hx,rfl⟩
  obtain rfl:x=true:=by rw [show x=_ from hx];simp
  refine app0 (ca1 (xjoin (xift rfl ?_)))
  refine xcl (pre:=[]) (SameWords_spec s1 s3 ws ws (by omega)) (rds_and rdb rdb) ?_
  rintro ⟨x,_⟩ _ ⟨hx,rfl⟩
  obtain rfl:x=true:=by rw [show x=_ from hx];simp
  refine app0 (ca1 (xjoin (xift rfl (xnew fun b1=>?_))))
  refine xfold1 0 (Q:=Ar SL ⟨some ⟨b1,0,none⟩,2,2⟩ [s,s1]) (fun g hg=>⟨[],blk_ar [s,s1] 2 rfl rfl hg⟩) ?_
  refine xcl (pre:=[Ar W16 s ws,Ar W16 s1 ws]) (Apart2_spec ⟨some ⟨b1,0,none⟩,2,2⟩ s s1 ws ws (by omega) (by omega)) rdb ?_
  rintro ⟨x,_⟩ Bs hx
  obtain rfl:x=true:=hx
  exact ca1 (xjoin (xift rfl (works fin)))
end Go.Cx
namespace Go.Cx
open Go Go.Cf
set_option linter.unusedVariables false
set_option maxRecDepth 100000
variable {B:Base}{As F:List HP}{α:Type}
theorem SameBools_same (a b:Sl) (xs:List Bool) (hb:xs.length≤1000000):Ct Pr F_kit_SameBools [a.v,b.v] .one [.bool] [] ((RAr BL a xs).and (RAr BL b xs)) (fun t Bs=>t.1=true∧Bs=[]):=by
  refine spec1 c_kit_SameBools fun B hr=>?_
  haveI:Fro B a BL xs:=⟨hr.1⟩
  have h1:=hr.1.1
  have h2:=hr.2.1
  unfold kit_SameBools
  refine xiff (by rw [←h1,←h2];simp) ?_
  refine xloop1 (fun n (x:Int) As'=>∃ k:Nat,x=(k:Int)∧n=xs.length - k∧k≤xs.length∧As'=[]) xs.length ⟨0,rfl,by omega,by omega,rfl⟩ ?_
  rintro n x As' K ⟨k,rfl,rfl,hk,rfl⟩ hK
  refine xif_dec (fun hp=>xdraw ?_) (fun hp=>xret ⟨rfl,rfl⟩)
  refine xidxn (h1:=by omega) (h:=fun x hx=>?_)
  refine xgetE hx (h:=?_)
  haveI:Fro B b BL xs:=⟨hr.2⟩
  refine xidxn (h1:=by omega) (h:=fun y hy=>?_)
  obtain rfl:x=y:=by rw [hx] at hy;cases hy;rfl
  refine xgetE hx (h:=?_)
  refine xiff (by simp) ?_
  rw [wrap_succ k (by omega)]
  exact hK _ _ _ (by omega) ⟨k+1,rfl,rfl,by omega,rfl⟩
theorem SameParts_same (a b:Sl) (xs:List P3) (hb:xs.length≤1000000):Ct Pr F_kit_SameParts [a.v,b.v] .one [.bool] [] ((RAr PaE a xs).and (RAr PaE b xs)) (fun t Bs=>t.1=true∧Bs=[]):=by
  refine spec1 c_kit_SameParts fun B hr=>?_
  haveI:Fro B a PaE xs:=⟨hr.1⟩
  have h1:=hr.1.1
  have h2:=hr.2.1
  unfold kit_SameParts
  refine xiff (by rw [←h1,←h2];simp) ?_
  refine xloop1 (fun n (x:Int) As'=>∃ k:Nat,x=(k:Int)∧n=xs.length - k∧k≤xs.length∧As'=[]) xs.length ⟨0,rfl,by omega,by omega,rfl⟩ ?_
  rintro n x As' K ⟨k,rfl,rfl,hk,rfl⟩ hK
  refine xif_dec (fun hp=>xdraw ?_) (fun hp=>xret ⟨rfl,rfl⟩)
  refine xidxn (h1:=by omega) (h:=fun x hx=>?_)
  refine xgetE hx (h:=?_)
  iterate 2 (refine xgetEj hx (h:=?_))
  haveI:Fro B b PaE xs:=⟨hr.2⟩
  refine xidxn (h1:=by omega) (h:=fun y hy=>?_)
  obtain rfl:x=y:=by rw [hx] at hy;cases hy;rfl
  refine xgetE hx (h:=?_)
  iterate 2 (refine xgetEj hx (h:=?_))
  refine xiff (by simp) ?_
  rw [wrap_succ k (by omega)]
  exact hK _ _ _ (by omega) ⟨k+1,rfl,rfl,by omega,rfl⟩
theorem LentBools_spec (l:Sl) (xs:List Bool) (hm:xs.length≤1000000) :
    Ct Pr F_kit_LentBools [l.v] .one [.slice] [] (RAr BL l xs) (fun t Bs=>Bs=[Ars BL t.1 xs (List.replicate 5 true)]):=by
  refine spec1 c_kit_LentBools fun B hr=>?_
  have fa:Fro B l BL xs:=⟨hr⟩
  have ha:=hr.1
  unfold kit_LentBools
  rw [wrap_id ((l.n:Int)+5) (by omega) (by omega)]
  refine xmake BL (by omega) (by omega) (h:=fun b=>?_)
  have hn:((l.n:Int)+5).toNat=l.n+5:=by omega
  rw [hn]
  refine xloop1 (fun n i As=>∃ (k:Nat) (ys:List Bool),i=(k:Int)∧n=xs.length - k∧k≤xs.length∧ys.length=xs.length+5∧(∀ j,j<k→ys[j]? = (xs++List.replicate 5 true)[j]?)∧As=[Ar BL ⟨some ⟨b,0,none⟩,l.n+5,l.n+5⟩ ys]) xs.length ⟨0,List.replicate (l.n+5) (BL).zero,rfl,rfl,by omega,by simp;omega,by intro j hj;omega,rfl⟩ ?_
  rintro n _ _ K ⟨k,ys,rfl,rfl,hk,hl,hys,rfl⟩ hK
  refine xif_dec (fun h=>?_) (fun h=>?_)
  · have hkl:k<ys.length:=by omega
    refine xidxn (h1:=by omega) (h:=fun x hx=>?_)
    refine xgetE hx (h:=?_)
    refine xidxn (h1:=by omega) (h:=fun y hy=>?_)
    refine xsetE (E:=BL) x hy (hv:=rfl) (h:=?_)
    rw [wrap_succ k (by omega)]
    refine hK (xs.length - (k+1)) _ _ (by omega) ⟨k+1,ys.set k x,rfl,rfl,by omega,by simpa using hl,set_upto hys (by omega) ?_,rfl⟩
    rw [List.getElem?_append_left (by omega),hx]
  have hk':k=xs.length:=by omega
  subst hk'
  refine xloop1 (fun n i As=>∃ (k:Nat) (ys:List Bool),i=(k:Int)∧n=xs.length+5 - k∧xs.length≤k∧k≤xs.length+5∧ys.length=xs.length+5∧(∀ j,j<k→ys[j]? = (xs++List.replicate 5 true)[j]?)∧As=[Ar BL ⟨some ⟨b,0,none⟩,l.n+5,l.n+5⟩ ys]) 5 ⟨xs.length,ys,by rw [ha],by omega,by omega,by omega,hl,hys,rfl⟩ ?_
  clear hys hl
  rintro n _ _ K' ⟨k,ys,rfl,rfl,hk0,hk,hl,hys,rfl⟩ hK'
  refine xif_dec (fun h=>?_) (fun h=>?_)
  · simp only at h
    have hkl:k<ys.length:=by omega
    refine xidxn (h1:=by omega) (h:=fun y hy=>?_)
    refine xsetE (E:=BL) true hy (hv:=rfl) (h:=?_)
    rw [wrap_succ k (by omega)]
    refine hK' (xs.length+5 - (k+1)) _ _ (by omega) ⟨k+1,ys.set k true,rfl,rfl,by omega,by omega,by simpa using hl,set_upto hys (by omega) ?_,rfl⟩
    rw [List.getElem?_append_right (by omega),List.getElem?_replicate,if_pos (by omega)]
  simp only at h
  obtain rfl:ys=xs++List.replicate 5 true:=eq_upto (by simp [hl]) (fun j hj=>hys j (by simp at hj;omega))
  refine xslc0 rfl (by omega) (by simp only;omega) ?_
  refine xars 0 fun zs h1 h2=>?_
  have:zs=[]:=List.eq_nil_of_length_eq_zero (by simp only [List.length_append,List.length_replicate] at h1 h2;omega)
  subst this
  refine xshift l.n xs (List.replicate 5 true) (by simp) ha ?_
  rw [Int.toNat_natCast]
  exact xret rfl
theorem LentWords_spec (l:Sl) (xs:List Int) (hm:xs.length≤1000000) :
    Ct Pr F_kit_LentWords [l.v] .one [.slice] [] (RAr W16 l xs) (fun t Bs=>Bs=[Ars W16 t.1 xs (List.replicate 5 42330)]):=by
  refine spec1 c_kit_LentWords fun B hr=>?_
  have fa:Fro B l W16 xs:=⟨hr⟩
  have ha:=hr.1
  unfold kit_LentWords
  rw [wrap_id ((l.n:Int)+5) (by omega) (by omega)]
  refine xmake W16 (by omega) (by omega) (h:=fun b=>?_)
  have hn:((l.n:Int)+5).toNat=l.n+5:=by omega
  rw [hn]
  refine xloop1 (fun n i As=>∃ (k:Nat) (ys:List Int),i=(k:Int)∧n=xs.length - k∧k≤xs.length∧ys.length=xs.length+5∧(∀ j,j<k→ys[j]? = (xs++List.replicate 5 42330)[j]?)∧As=[Ar W16 ⟨some ⟨b,0,none⟩,l.n+5,l.n+5⟩ ys]) xs.length ⟨0,List.replicate (l.n+5) (W16).zero,rfl,rfl,by omega,by simp;omega,by intro j hj;omega,rfl⟩ ?_
  rintro n _ _ K ⟨k,ys,rfl,rfl,hk,hl,hys,rfl⟩ hK
  refine xif_dec (fun h=>?_) (fun h=>?_)
  · have hkl:k<ys.length:=by omega
    refine xidxn (h1:=by omega) (h:=fun x hx=>?_)
    refine xgetE hx (h:=?_)
    refine xidxn (h1:=by omega) (h:=fun y hy=>?_)
    refine xsetE (E:=W16) x hy (hv:=rfl) (h:=?_)
    rw [wrap_succ k (by omega)]
    refine hK (xs.length - (k+1)) _ _ (by omega) ⟨k+1,ys.set k x,rfl,rfl,by omega,by simpa using hl,set_upto hys (by omega) ?_,rfl⟩
    rw [List.getElem?_append_left (by omega),hx]
  have hk':k=xs.length:=by omega
  subst hk'
  refine xloop1 (fun n i As=>∃ (k:Nat) (ys:List Int),i=(k:Int)∧n=xs.length+5 - k∧xs.length≤k∧k≤xs.length+5∧ys.length=xs.length+5∧(∀ j,j<k→ys[j]? = (xs++List.replicate 5 42330)[j]?)∧As=[Ar W16 ⟨some ⟨b,0,none⟩,l.n+5,l.n+5⟩ ys]) 5 ⟨xs.length,ys,by rw [ha],by omega,by omega,by omega,hl,hys,rfl⟩ ?_
  clear hys hl
  rintro n _ _ K' ⟨k,ys,rfl,rfl,hk0,hk,hl,hys,rfl⟩ hK'
  refine xif_dec (fun h=>?_) (fun h=>?_)
  · simp only at h
    have hkl:k<ys.length:=by omega
    refine xidxn (h1:=by omega) (h:=fun y hy=>?_)
    refine xsetE (E:=W16) 42330 hy (hv:=rfl) (h:=?_)
    rw [wrap_succ k (by omega)]
    refine hK' (xs.length+5 - (k+1)) _ _ (by omega) ⟨k+1,ys.set k 42330,rfl,rfl,by omega,by omega,by simpa using hl,set_upto hys (by omega) ?_,rfl⟩
    rw [List.getElem?_append_right (by omega),List.getElem?_replicate,if_pos (by omega)]
  simp only at h
  obtain rfl:ys=xs++List.replicate 5 42330:=eq_upto (by simp [hl]) (fun j hj=>hys j (by simp at hj;omega))
  refine xslc0 rfl (by omega) (by simp only;omega) ?_
  refine xars 0 fun zs h1 h2=>?_
  have:zs=[]:=List.eq_nil_of_length_eq_zero (by simp only [List.length_append,List.length_replicate] at h1 h2;omega)
  subst this
  refine xshift l.n xs (List.replicate 5 42330) (by simp) ha ?_
  rw [Int.toNat_natCast]
  exact xret rfl
theorem LentParts_spec (l:Sl) (xs:List P3) (hm:xs.length≤1000000) :
    Ct Pr F_kit_LentParts [l.v] .one [.slice] [] (RAr PaE l xs) (fun t Bs=>Bs=[Ars PaE t.1 xs (List.replicate 5 ((-77,0,0):P3))]):=by
  refine spec1 c_kit_LentParts fun B hr=>?_
  have fa:Fro B l PaE xs:=⟨hr⟩
  have ha:=hr.1
  unfold kit_LentParts
  rw [wrap_id ((l.n:Int)+5) (by omega) (by omega)]
  refine xmake PaE (by omega) (by omega) (h:=fun b=>?_)
  have hn:((l.n:Int)+5).toNat=l.n+5:=by omega
  rw [hn]
  refine xloop1 (fun n i As=>∃ (k:Nat) (ys:List P3),i=(k:Int)∧n=xs.length - k∧k≤xs.length∧ys.length=xs.length+5∧(∀ j,j<k→ys[j]? = (xs++List.replicate 5 ((-77,0,0):P3))[j]?)∧As=[Ar PaE ⟨some ⟨b,0,none⟩,l.n+5,l.n+5⟩ ys]) xs.length ⟨0,List.replicate (l.n+5) (PaE).zero,rfl,rfl,by omega,by simp;omega,by intro j hj;omega,rfl⟩ ?_
  rintro n _ _ K ⟨k,ys,rfl,rfl,hk,hl,hys,rfl⟩ hK
  refine xif_dec (fun h=>?_) (fun h=>?_)
  · have hkl:k<ys.length:=by omega
    refine xidxn (h1:=by omega) (h:=fun x hx=>?_)
    refine xgetE hx (h:=?_)
    iterate 2 (refine xgetEj hx (h:=?_))
    refine xidxn (h1:=by omega) (h:=fun y hy=>?_)
    refine xsetE (E:=PaE) ((x.1,y.2.1,y.2.2):P3) hy (hv:=rfl) (h:=?_)
    refine xsetEj (E:=PaE) ((x.1,x.2.1,y.2.2):P3) (x:=((x.1,y.2.1,y.2.2):P3)) (by simp [hkl]) rfl (by decide) rfl (h:=?_)
    refine xsetEj (E:=PaE) ((x.1,x.2.1,x.2.2):P3) (x:=((x.1,x.2.1,y.2.2):P3)) (by simp [hkl]) rfl (by decide) rfl (h:=?_)
    simp only [List.set_set]
    rw [wrap_succ k (by omega)]
    refine hK (xs.length - (k+1)) _ _ (by omega) ⟨k+1,ys.set k x,rfl,rfl,by omega,by simpa using hl,set_upto hys (by omega) ?_,rfl⟩
    rw [List.getElem?_append_left (by omega),hx]
  have hk':k=xs.length:=by omega
  subst hk'
  refine xloop1 (fun n i As=>∃ (k:Nat) (ys:List P3),i=(k:Int)∧n=xs.length+5 - k∧xs.length≤k∧k≤xs.length+5∧ys.length=xs.length+5∧(∀ j,j<k→ys[j]? = (xs++List.replicate 5 ((-77,0,0):P3))[j]?)∧As=[Ar PaE ⟨some ⟨b,0,none⟩,l.n+5,l.n+5⟩ ys]) 5 ⟨xs.length,ys,by rw [ha],by omega,by omega,by omega,hl,hys,rfl⟩ ?_
  clear hys hl
  rintro n _ _ K' ⟨k,ys,rfl,rfl,hk0,hk,hl,hys,rfl⟩ hK'
  refine xif_dec (fun h=>?_) (fun h=>?_)
  · simp only at h
    have hkl:k<ys.length:=by omega
    refine xidxn (h1:=by omega) (h:=fun y hy=>?_)
    refine xsetE (E:=PaE) ((((-77,0,0):P3).1,y.2.1,y.2.2):P3) hy (hv:=rfl) (h:=?_)
    refine xsetEj (E:=PaE) ((((-77,0,0):P3).1,((-77,0,0):P3).2.1,y.2.2):P3) (x:=((((-77,0,0):P3).1,y.2.1,y.2.2):P3)) (by simp [hkl]) rfl (by decide) rfl (h:=?_)
    refine xsetEj (E:=PaE) ((((-77,0,0):P3).1,((-77,0,0):P3).2.1,((-77,0,0):P3).2.2):P3) (x:=((((-77,0,0):P3).1,((-77,0,0):P3).2.1,y.2.2):P3)) (by simp [hkl]) rfl (by decide) rfl (h:=?_)
    simp only [List.set_set]
    rw [wrap_succ k (by omega)]
    refine hK' (xs.length+5 - (k+1)) _ _ (by omega) ⟨k+1,ys.set k ((-77,0,0):P3),rfl,rfl,by omega,by omega,by simpa using hl,set_upto hys (by omega) ?_,rfl⟩
    rw [List.getElem?_append_right (by omega),List.getElem?_replicate,if_pos (by omega)]
  simp only at h
  obtain rfl:ys=xs++List.replicate 5 ((-77,0,0):P3):=eq_upto (by simp [hl]) (fun j hj=>hys j (by simp at hj;omega))
  refine xslc0 rfl (by omega) (by simp only;omega) ?_
  refine xars 0 fun zs h1 h2=>?_
  have:zs=[]:=List.eq_nil_of_length_eq_zero (by simp only [List.length_append,List.length_replicate] at h1 h2;omega)
  subst this
  refine xshift l.n xs (List.replicate 5 ((-77,0,0):P3)) (by simp) ha ?_
  rw [Int.toNat_natCast]
  exact xret rfl
theorem KeptBools_spec (l m:Sl) (xs:List Bool) (hm:xs.length≤1000000) :
    Ct Pr F_kit_KeptBools [l.v,m.v] .one [.bool] [] ((RArs BL l xs (List.replicate 5 true)).and (RAr BL m xs)) (fun t Bs=>t.1=true∧Bs=[]):=by
  refine spec1 c_kit_KeptBools fun B hr=>?_
  obtain ⟨⟨h1,h2,h3,h4⟩,h5⟩:=hr
  have fa:Fro B l BL xs:=⟨h3⟩
  have fb:Fro B m BL xs:=⟨h5⟩
  have fc:Fro B ⟨l.p,l.c,l.c⟩ BL (xs++List.replicate 5 true):=⟨h4⟩
  have hmn:=h5.1
  rw [List.length_replicate] at h2
  unfold kit_KeptBools
  refine xcall0 (SameBools_same l m xs (by omega)) rdb ?_
  rintro ⟨c,_⟩ _ ⟨hc,rfl⟩
  obtain rfl:c=true:=hc
  rw [wrap_id ((m.n:Int)+5) (by omega) (by omega)]
  refine app0 (ca1 (xjoin (xiff rfl (xif_dec (fun h=>absurd h (by omega)) (fun h=>?_)))))
  refine xslc0 rfl (by omega) (by omega) ?_
  have e:((m.n:Int)+5).toNat=l.c:=by omega
  rw [e]
  refine xloop1 (fun n i As=>∃ k:Nat,i=(k:Int)∧n=l.c - k∧xs.length≤k∧k≤l.c∧As=[]) 5 ⟨xs.length,by rw [hmn],by omega,by omega,by omega,rfl⟩ ?_
  rintro n _ _ K ⟨k,rfl,rfl,hk0,hk,rfl⟩ hK
  refine xif_dec (fun h=>?_) (fun h=>?_)
  · simp only at h
    refine xidxn (h1:=by simp;omega) (h:=fun y hy=>?_)
    have:y=true:=by
      have hy':=hy
      rw [List.getElem?_append_right (by omega),List.getElem?_replicate,if_pos (by omega)] at hy'
      exact (Option.some.inj hy').symm
    subst this
    refine xgetE hy (h:=?_)
    refine xiff (by simp) ?_
    rw [wrap_succ k (by omega)]
    exact hK (l.c - (k+1)) _ _ (by omega) ⟨k+1,rfl,rfl,by omega,by omega,rfl⟩
  · exact xret ⟨rfl,rfl⟩
theorem KeptWords_spec (l m:Sl) (xs:List Int) (hm:xs.length≤1000000) :
    Ct Pr F_kit_KeptWords [l.v,m.v] .one [.bool] [] ((RArs W16 l xs (List.replicate 5 42330)).and (RAr W16 m xs)) (fun t Bs=>t.1=true∧Bs=[]):=by
  refine spec1 c_kit_KeptWords fun B hr=>?_
  obtain ⟨⟨h1,h2,h3,h4⟩,h5⟩:=hr
  have fa:Fro B l W16 xs:=⟨h3⟩
  have fb:Fro B m W16 xs:=⟨h5⟩
  have fc:Fro B ⟨l.p,l.c,l.c⟩ W16 (xs++List.replicate 5 42330):=⟨h4⟩
  have hmn:=h5.1
  rw [List.length_replicate] at h2
  unfold kit_KeptWords
  refine xcall0 (SameWords_spec l m xs xs (by omega)) rdb ?_
  rintro ⟨c,_⟩ _ ⟨hc,rfl⟩
  obtain rfl:c=true:=by rw [show c=_ from hc];simp
  rw [wrap_id ((m.n:Int)+5) (by omega) (by omega)]
  refine app0 (ca1 (xjoin (xiff rfl (xif_dec (fun h=>absurd h (by omega)) (fun h=>?_)))))
  refine xslc0 rfl (by omega) (by omega) ?_
  have e:((m.n:Int)+5).toNat=l.c:=by omega
  rw [e]
  refine xloop1 (fun n i As=>∃ k:Nat,i=(k:Int)∧n=l.c - k∧xs.length≤k∧k≤l.c∧As=[]) 5 ⟨xs.length,by rw [hmn],by omega,by omega,by omega,rfl⟩ ?_
  rintro n _ _ K ⟨k,rfl,rfl,hk0,hk,rfl⟩ hK
  refine xif_dec (fun h=>?_) (fun h=>?_)
  · simp only at h
    refine xidxn (h1:=by simp;omega) (h:=fun y hy=>?_)
    have:y=42330:=by
      have hy':=hy
      rw [List.getElem?_append_right (by omega),List.getElem?_replicate,if_pos (by omega)] at hy'
      exact (Option.some.inj hy').symm
    subst this
    refine xgetE hy (h:=?_)
    refine xiff (by simp) ?_
    rw [wrap_succ k (by omega)]
    exact hK (l.c - (k+1)) _ _ (by omega) ⟨k+1,rfl,rfl,by omega,by omega,rfl⟩
  · exact xret ⟨rfl,rfl⟩
theorem KeptParts_spec (l m:Sl) (xs:List P3) (hm:xs.length≤1000000) :
    Ct Pr F_kit_KeptParts [l.v,m.v] .one [.bool] [] ((RArs PaE l xs (List.replicate 5 ((-77,0,0):P3))).and (RAr PaE m xs)) (fun t Bs=>t.1=true∧Bs=[]):=by
  refine spec1 c_kit_KeptParts fun B hr=>?_
  obtain ⟨⟨h1,h2,h3,h4⟩,h5⟩:=hr
  have fa:Fro B l PaE xs:=⟨h3⟩
  have fb:Fro B m PaE xs:=⟨h5⟩
  have fc:Fro B ⟨l.p,l.c,l.c⟩ PaE (xs++List.replicate 5 ((-77,0,0):P3)):=⟨h4⟩
  have hmn:=h5.1
  rw [List.length_replicate] at h2
  unfold kit_KeptParts
  refine xcall0 (SameParts_same l m xs (by omega)) rdb ?_
  rintro ⟨c,_⟩ _ ⟨hc,rfl⟩
  obtain rfl:c=true:=hc
  rw [wrap_id ((m.n:Int)+5) (by omega) (by omega)]
  refine app0 (ca1 (xjoin (xiff rfl (xif_dec (fun h=>absurd h (by omega)) (fun h=>?_)))))
  refine xslc0 rfl (by omega) (by omega) ?_
  have e:((m.n:Int)+5).toNat=l.c:=by omega
  rw [e]
  refine xloop1 (fun n i As=>∃ k:Nat,i=(k:Int)∧n=l.c - k∧xs.length≤k∧k≤l.c∧As=[]) 5 ⟨xs.length,by rw [hmn],by omega,by omega,by omega,rfl⟩ ?_
  rintro n _ _ K ⟨k,rfl,rfl,hk0,hk,rfl⟩ hK
  refine xif_dec (fun h=>?_) (fun h=>?_)
  · simp only at h
    refine xidxn (h1:=by simp;omega) (h:=fun y hy=>?_)
    have:y=((-77,0,0):P3):=by
      have hy':=hy
      rw [List.getElem?_append_right (by omega),List.getElem?_replicate,if_pos (by omega)] at hy'
      exact (Option.some.inj hy').symm
    subst this
    refine xgetE hy (h:=?_)
    iterate 2 (refine xgetEj hy (h:=?_))
    refine xiff (by simp) ?_
    rw [wrap_succ k (by omega)]
    exact hK (l.c - (k+1)) _ _ (by omega) ⟨k+1,rfl,rfl,by omega,by omega,rfl⟩
  · exact xret ⟨rfl,rfl⟩
end Go.Cx
namespace Go.Cx
open Go Go.Cf
set_option linter.unusedVariables false
set_option maxRecDepth 100000
variable {B:Base}{As F:List HP}{α:Type}
def RowsR (s:Sl) (ws:List (List Int)):HP:=fun g=>∃ rs:List Sl,RAr SL s rs g∧rs.length=ws.length∧∀ (i:Nat) (r:Sl) (w:List Int),rs[i]? = some r→ws[i]? = some w→RAr W16 r w g
theorem RowsR.mono {s:Sl}{ws:List (List Int)}:∀ g f,RowsR s ws g→Sub g f→RowsR s ws f:=fun _ _ ⟨rs,h1,h2,h3⟩ s=>⟨rs,h1.mono s,h2,fun i r w a b=>(h3 i r w a b).mono s⟩
theorem RowsO.read {s:Sl}{ws:List (List Int)}{h:Frag}(hr:RowsO s ws h):RowsR s ws h:=by
  obtain ⟨rs,a,b,pa,⟨c,d,pc,_,_,sc,_⟩,_,sa,sb⟩:=hr
  refine ⟨rs,pa.read.mono sa,pc.length,fun i r bs hi hb=>?_⟩
  exact (each_read (S:=RAr W16) (fun x y g f h s=>h.mono s) (fun x y g h=>h.read) pc hi hb).mono (sc.trans sb)
instance Rdb.rowsW (s:Sl) (ws:List (List Int)):Rdb B (RowsO s ws::F) (RowsR s ws):=⟨fun g _ hF ⟨_,_,pa,_,_,sa,_⟩ c=>RowsR.mono _ _ pa.read (sa.trans c)⟩
theorem SameFiles_spec (a b:Sl) (ws:List (List Int)) (hl:ws.length≤1000000) (hw:∀ w∈ws,w.length≤1000000):Ct Pr F_kit_SameFiles [a.v,b.v] .one [.bool] [] ((RowsR a ws).and (RowsR b ws)) (fun t Bs=>t.1=true∧Bs=[]):=by
  refine spec1 c_kit_SameFiles fun B hr=>?_
  obtain ⟨⟨ra,a1,a2,a3⟩,rb,b1,b2,b3⟩:=hr
  haveI:Fro B a SL ra:=⟨a1⟩
  haveI:Fro B b SL rb:=⟨b1⟩
  have h1:=a1.1
  have h2:=b1.1
  unfold kit_SameFiles
  refine xiff (by rw [←h1,←h2,a2,b2];simp) ?_
  refine xloop1 (fun n (x:Int) As'=>∃ k:Nat,x=(k:Int)∧n=ws.length - k∧k≤ws.length∧As'=[]) ws.length ⟨0,rfl,by omega,by omega,rfl⟩ ?_
  rintro n x As' K ⟨k,rfl,rfl,hk,rfl⟩ hK
  refine xif_dec (fun hp=>xdraw ?_) (fun hp=>xret ⟨rfl,rfl⟩)
  obtain ⟨w,hw1⟩:∃ w,ws[k]? = some w:=⟨_,List.getElem?_eq_getElem (by omega)⟩
  refine xidxn (E:=SL) (xs:=ra) (s:=a) (h1:=by omega) (h:=fun x hx=>?_)
  refine xgetE (E:=SL) (xs:=ra) hx (h:=?_)
  refine xidxn (E:=SL) (xs:=rb) (s:=b) (h1:=by omega) (h:=fun y hy=>?_)
  refine xgetE (E:=SL) (xs:=rb) hy (h:=?_)
  haveI:Fro B x W16 w:=⟨a3 k x w hx hw1⟩
  haveI:Fro B y W16 w:=⟨b3 k y w hy hw1⟩
  have hwl:=hw w (List.mem_of_getElem? hw1)
  refine xcall0 (SameWords_spec x y w w (by omega)) rdb ?_
  rintro ⟨c,_⟩ _ ⟨hc,rfl⟩
  obtain rfl:c=true:=by rw [show c=_ from hc];simp
  refine app0 (ca1 (xiff rfl ?_))
  rw [wrap_succ k (by omega)]
  exact hK _ _ _ (by omega) ⟨k+1,rfl,rfl,by omega,rfl⟩
theorem SameReply_spec (e:Int) (a1 a2 a3 b1 b2 b3:Sl) (on:List Bool) (us:List Int) (ws:List (List Int)) (hon:on.length≤1000000) (hus:us.length≤1000000) (hl:ws.length≤1000000) (hw:∀ w∈ws,w.length≤1000000) :
    Ct Pr F_kit_SameReply [.agg #[.int .i64 e,a1.v,a2.v,a3.v],.agg #[.int .i64 e,b1.v,b2.v,b3.v]] .one [.bool] [] (((RAr BL a1 on).and (RAr BL b1 on)).and (((RAr W16 a2 us).and (RAr W16 b2 us)).and ((RowsR a3 ws).and (RowsR b3 ws)))) (fun t Bs=>t.1=true∧Bs=[]):=by
  refine spec1 c_kit_SameReply fun B hr=>?_
  obtain ⟨⟨r1,r2⟩,⟨r3,r4⟩,r5,r6⟩:=hr
  haveI:Fro B a1 BL on:=⟨r1⟩
  haveI:Fro B b1 BL on:=⟨r2⟩
  haveI:Fro B a2 W16 us:=⟨r3⟩
  haveI:Fro B b2 W16 us:=⟨r4⟩
  haveI:FroP B (RowsR a3 ws):=⟨r5,RowsR.mono⟩
  haveI:FroP B (RowsR b3 ws):=⟨r6,RowsR.mono⟩
  unfold kit_SameReply
  refine xnew fun b=>xnew fun b'=>xget (h:=xget (h:=xjoin (xift (by simp) (xget (h:=xget (h:=?_))))))
  refine xcall0 (SameBools_same a1 b1 on hon) rdb ?_
  rintro ⟨c,_⟩ _ ⟨hc,rfl⟩
  obtain rfl:c=true:=hc
  refine app0 (ca1 (xjoin (xift rfl (xget (h:=xget (h:=?_))))))
  refine xcall0 (SameWords_spec a2 b2 us us (by omega)) rdb ?_
  rintro ⟨c,_⟩ _ ⟨hc,rfl⟩
  obtain rfl:c=true:=by rw [show c=_ from hc];simp
  refine app0 (ca1 (xjoin (xift rfl (xget (h:=xget (h:=?_))))))
  refine xcall0 (SameFiles_spec a3 b3 ws hl hw) rdb ?_
  rintro ⟨c,_⟩ _ ⟨hc,rfl⟩
  obtain rfl:c=true:=hc
  exact app0 (ca1 (xkeep (l:=[]) (xret ⟨rfl,rfl⟩)))
theorem SpoilBools_spec (l:Sl) (xs:List Bool):Ct Pr F_kit_SpoilBools [l.v] (.tup []) [] [Ar BL l xs] emp (fun t Bs=>∃ ys:List Bool,ys.length=xs.length∧Bs=[Ar BL l ys]):=by
  refine spec0 c_kit_SpoilBools fun B _=>?_
  unfold kit_SpoilBools
  refine xslc0 rfl (by omega) (by omega) ?_
  rw [Int.toNat_natCast]
  refine xars 0 fun zs h1 h2=>?_
  refine xfact 0 (fun g hg=>hg.cap_le) fun hM=>?_
  refine xshift l.c (xs++zs) [] (by simp) (by simpa using h2) (xar ?_)
  refine xloop1 (fun n i As=>∃ (k:Nat) (ys:List Bool),i=(k:Int)∧n=l.c - k∧k≤l.c∧ys.length=l.c∧As=[Ar BL ⟨l.p,l.c,l.c⟩ ys]) l.c ⟨0,xs++zs,rfl,rfl,by omega,by simpa using h2,rfl⟩ ?_
  rintro n _ _ K ⟨k,ys,rfl,rfl,hk,hl,rfl⟩ hK
  refine xif_dec (fun h=>?_) (fun h=>?_)
  · simp only at h
    refine xidxn (h1:=by omega) (h:=fun y hy=>?_)
    refine xgetE hy (h:=?_)
    refine xidxn (h1:=by omega) (h:=fun y' _=>?_)
    refine xsetE (!y) hy (hv:=rfl) (h:=?_)
    rw [wrap_succ k (by omega)]
    exact hK (l.c - (k+1)) _ _ (by omega) ⟨k+1,_,rfl,rfl,by omega,by simpa using hl,rfl⟩
  · refine xars 0 fun zs' h1' h2'=>?_
    have hz':zs'=[]:=List.eq_nil_of_length_eq_zero (by simp only at h2';omega)
    subst hz'
    refine xshift l.n (ys.take l.n) (ys.drop l.n) (by simp) (by simp;omega) (xar ?_)
    exact xret ⟨ys.take l.n,by simp;omega,rfl⟩
theorem SpoilReply_spec (e:Int) (a1 a2 a3:Sl) (on:List Bool) (us:List Int) (ws:List (List Int)) :
    Ct Pr F_kit_SpoilReply [.agg #[.int .i64 e,a1.v,a2.v,a3.v]] (.tup []) [] [Ar BL a1 on,Ar W16 a2 us,RowsO a3 ws] emp (fun _ Bs=>Bs=[]):=by
  refine spec0 c_kit_SpoilReply fun B _=>?_
  unfold kit_SpoilReply
  refine xnew fun b=>xget (h:=?_)
  refine xcl (SpoilBools_spec a1 on) rdb ?_
  rintro _ _ ⟨ys,_,rfl⟩
  refine app1 (ca0 (xget (h:=?_)))
  refine xcl (SpoilW_spec a2 us) rdb ?_
  rintro _ _ ⟨zs,_,rfl⟩
  refine app1 (ca0 ?_)
  refine xuse [RowsO a3 ws,Blk b [.int .i64 e,a1.v,a2.v,a3.v]] ?_
  refine xopen 0 (fun Bs=>∃ rs:List Sl,rs.length=ws.length∧Bs=[Ar SL a3 rs,Each (Ar W16) rs ws]) (fun g hg=>?_) ?_
  · obtain ⟨rs,hg⟩:=hg
    refine ⟨_,⟨rs,?_,rfl⟩,hg⟩
    obtain ⟨_,_,_,⟨_,_,pc,_⟩,_⟩:=hg
    exact Each.length pc
  rintro _ ⟨rs,hrs,rfl⟩
  refine app2 ?_
  refine xlen (E:=SL) (xs:=rs) a3 fun hn hcap=>?_
  refine xfact 0 (P1:=Ar SL a3 rs) (fun g ⟨zs,hg⟩=>hg.cap_le) fun hM=>?_
  refine xloop1 (fun n (x:Int) As'=>∃ (k:Nat) (ws':List (List Int)),x=(k:Int)∧n=rs.length - k∧k≤rs.length∧ws'.length=rs.length∧As'=[Ar SL a3 rs,Each (Ar W16) rs ws',Blk b [.int .i64 e,a1.v,a2.v,a3.v]]) rs.length ⟨0,ws,rfl,rfl,by omega,hrs.symm,rfl⟩ ?_
  rintro n x As' K ⟨k,ws',rfl,rfl,hk,hl,rfl⟩ hK
  refine xget (h:=xif_dec (fun hp=>?_) (fun hp=>xkeep (l:=[]) (xret rfl)))
  have hkl:k<rs.length:=by omega
  obtain ⟨r,hr⟩:∃ r,rs[k]? = some r:=⟨_,List.getElem?_eq_getElem hkl⟩
  obtain ⟨w,hw⟩:∃ w,ws'[k]? = some w:=⟨_,List.getElem?_eq_getElem (by omega)⟩
  refine xget (h:=?_)
  refine xidxn (E:=SL) (xs:=rs) (s:=a3) (h1:=hkl) (h:=fun _ _=>?_)
  refine xgetE (E:=SL) (xs:=rs) hr (h:=?_)
  refine xopen 1 (fun Bs=>Bs=[Ar W16 r w,Each (Ar W16) (rs.eraseIdx k) (ws'.eraseIdx k)]) (fun g hg=>⟨_,rfl,each_pick hg hr hw⟩) ?_
  rintro _ rfl
  refine app2 ?_
  refine xcl (SpoilW_spec r w) rdb ?_
  rintro _ _ ⟨w2,_,rfl⟩
  refine app1 (ca0 ?_)
  refine xfold [Ar W16 r w2,Each (Ar W16) (rs.eraseIdx k) (ws'.eraseIdx k)] (Each (Ar W16) (rs.set k r) (ws'.set k w2)) (fun g hg=>each_put hkl (by omega) hg) ?_
  have e1:rs.set k r=rs:=by
    obtain ⟨h1,h2⟩:=List.getElem?_eq_some_iff.1 hr
    rw [←h2];exact List.set_getElem_self h1
  rw [e1,wrap_succ k (by omega)]
  exact xuse' (hK (rs.length - (k+1)) _ _ (by omega) ⟨k+1,ws'.set k w2,rfl,rfl,by omega,by simpa using hl,rfl⟩)
def lentPost (a0 a1 a2:Int) (on:List Bool) (us:List Int) (ps:List P3):Tup [.int .i64,.int .i64,.int .i64,.slice,.slice,.slice]→List HP→Prop:=fun t Bs=>
  t.1=a0∧t.2.1=a1∧t.2.2.1=a2∧Bs=[Ars BL t.2.2.2.1 on (List.replicate 5 true),Ars W16 t.2.2.2.2.1 us (List.replicate 5 42330),Ars PaE t.2.2.2.2.2.1 ps (List.replicate 5 ((-77,0,0):P3))]
theorem LentAsk_spec (a0 a1 a2:Int) (a3 a4 a5:Sl) (on:List Bool) (us:List Int) (ps:List P3) (hon:on.length≤1000000) (hus:us.length≤1000000) (hps:ps.length≤1000000) :
    Ct Pr F_kit_LentAsk [.agg #[.int .i64 a0,.int .i64 a1,.int .i64 a2,a3.v,a4.v,a5.v]] .agg [.int .i64,.int .i64,.int .i64,.slice,.slice,.slice] [] (((RAr BL a3 on).and (RAr W16 a4 us)).and (RAr PaE a5 ps))
      (lentPost a0 a1 a2 on us ps):=by
  refine spec_gen (ss:=[.int .i64,.int .i64,.int .i64,.slice,.slice,.slice]) c_kit_LentAsk fun B hr=>?_
  obtain ⟨⟨r1,r2⟩,r3⟩:=hr
  haveI:Fro B a3 BL on:=⟨r1⟩
  haveI:Fro B a4 W16 us:=⟨r2⟩
  haveI:Fro B a5 PaE ps:=⟨r3⟩
  show Ent B [] (kit_LentAsk a0 a1 a2 a3 a4 a5 fun x0 x1 x2 x3 x4 x5=>Ret B (ss:=[.int .i64,.int .i64,.int .i64,.slice,.slice,.slice]) (lentPost a0 a1 a2 on us ps) (x0,x1,x2,x3,x4,x5,()))
  unfold kit_LentAsk
  refine xnew fun b=>xnew fun b1=>xget (h:=?_)
  refine xcall0 (LentBools_spec a3 on hon) rdb ?_
  rintro ⟨s1,_⟩ _ rfl
  refine app1 (ca1 (xset (h:=xget (h:=?_))))
  refine xcall0 (LentWords_spec a4 us hus) rdb ?_
  rintro ⟨s2,_⟩ _ rfl
  refine app1 (ca1 (xset (h:=xget (h:=?_))))
  refine xcall0 (LentParts_spec a5 ps hps) rdb ?_
  rintro ⟨s3,_⟩ _ rfl
  refine app1 (ca1 (xset (h:=?_)))
  iterate 6 (refine xget (h:=?_))
  iterate 6 (refine xset (h:=?_))
  iterate 6 (refine xget (h:=?_))
  exact xuse [Ars BL s1 on (List.replicate 5 true),Ars W16 s2 us (List.replicate 5 42330),Ars PaE s3 ps (List.replicate 5 ((-77,0,0):P3))] (xret ⟨rfl,rfl,rfl,rfl⟩)
theorem KeptAsk_spec (a0 a1 a2:Int) (l3 l4 l5 a3 a4 a5:Sl) (on:List Bool) (us:List Int) (ps:List P3) (hon:on.length≤1000000) (hus:us.length≤1000000) (hps:ps.length≤1000000) :
    Ct Pr F_kit_KeptAsk [.agg #[.int .i64 a0,.int .i64 a1,.int .i64 a2,l3.v,l4.v,l5.v],.agg #[.int .i64 a0,.int .i64 a1,.int .i64 a2,a3.v,a4.v,a5.v]] .one [.bool] [] ((((RAr BL a3 on).and (RAr W16 a4 us)).and (RAr PaE a5 ps)).and (((RArs BL l3 on (List.replicate 5 true)).and (RArs W16 l4 us (List.replicate 5 42330))).and (RArs PaE l5 ps (List.replicate 5 ((-77,0,0):P3)))))
      (fun t Bs=>t.1=true∧Bs=[]):=by
  refine spec1 c_kit_KeptAsk fun B hr=>?_
  obtain ⟨⟨⟨r1,r2⟩,r3⟩,⟨r4,r5⟩,r6⟩:=hr
  haveI:Fro B a3 BL on:=⟨r1⟩
  haveI:Fro B a4 W16 us:=⟨r2⟩
  haveI:Fro B a5 PaE ps:=⟨r3⟩
  haveI:FroP B (RArs BL l3 on (List.replicate 5 true)):=⟨r4,fun _ _ h s=>h.mono s⟩
  haveI:FroP B (RArs W16 l4 us (List.replicate 5 42330)):=⟨r5,fun _ _ h s=>h.mono s⟩
  haveI:FroP B (RArs PaE l5 ps (List.replicate 5 ((-77,0,0):P3))):=⟨r6,fun _ _ h s=>h.mono s⟩
  unfold kit_KeptAsk
  refine xnew fun b=>xnew fun b1=>?_
  iterate 3 (refine xget (h:=xget (h:=xjoin (xift (by simp) ?_))))
  refine xget (h:=xget (h:=?_))
  refine xcall0 (KeptBools_spec l3 a3 on hon) rdb ?_
  rintro ⟨c,_⟩ _ ⟨hc,rfl⟩
  obtain rfl:c=true:=hc
  refine app0 (ca1 (xjoin (xift rfl (xget (h:=xget (h:=?_))))))
  refine xcall0 (KeptWords_spec l4 a4 us hus) rdb ?_
  rintro ⟨c,_⟩ _ ⟨hc,rfl⟩
  obtain rfl:c=true:=hc
  refine app0 (ca1 (xjoin (xift rfl (xget (h:=xget (h:=?_))))))
  refine xcall0 (KeptParts_spec l5 a5 ps hps) rdb ?_
  rintro ⟨c,_⟩ _ ⟨hc,rfl⟩
  obtain rfl:c=true:=hc
  exact app0 (ca1 (xkeep (l:=[]) (xret ⟨rfl,rfl⟩)))
theorem LongAsk_spec (a0 a1 a2:Int) (a3 a4 a5:Sl):Ct Pr F_kit_LongAsk [.agg #[.int .i64 a0,.int .i64 a1,.int .i64 a2,a3.v,a4.v,a5.v]] .one [.bool] [] emp (fun t Bs=>(t.1=false→a3.n≤70000∧a4.n≤70000∧a5.n≤70000)∧Bs=[]):=by
  refine spec1 c_kit_LongAsk fun B _=>?_
  unfold kit_LongAsk
  refine xnew fun b=>xget (h:=?_)
  refine xjoin1 (fun(c:Bool) As'=>(c=false→a3.n≤70000∧a4.n≤70000)∧As'=[Blk b [.int .i64 a0,.int .i64 a1,.int .i64 a2,a3.v,a4.v,a5.v]]) (fun K hK=>xif_dec (fun h=>hK _ _ ⟨fun e=>(by cases e),rfl⟩) (fun h=>xget (h:=hK _ _ ⟨fun e=>by (simp only [decide_eq_false_iff_not] at e;omega),rfl⟩))) ?_
  rintro c _ ⟨hc,rfl⟩
  refine xjoin1 (fun(c:Bool) As'=>(c=false→a3.n≤70000∧a4.n≤70000∧a5.n≤70000)∧As'=[Blk b [.int .i64 a0,.int .i64 a1,.int .i64 a2,a3.v,a4.v,a5.v]]) (fun K hK=>xif (fun h=>hK _ _ ⟨fun e=>(by cases e),rfl⟩) (fun h=>xget (h:=hK _ _ ⟨fun e=>by (have:=hc h;simp only [decide_eq_false_iff_not] at e;omega),rfl⟩))) ?_
  rintro c _ ⟨hc,rfl⟩
  exact xkeep (l:=[]) (xret ⟨hc,rfl⟩)
end Go.Cx
namespace Go.Cx
open Go Go.Cf
set_option linter.unusedVariables false
set_option maxRecDepth 100000
variable {B:Base}{As F:List HP}{α:Type}
theorem parts03_spec (s:Sl) (ps:List P3) (hl:ps.length≤35):Ct Pr F_ref03_parts [s.v] .one [.int .i64] [] (RAr PaE s ps) (fun t Bs=>t.1=chkP 245 ps∧Bs=[]):=by
  refine spec1 c_ref03_parts fun B hr=>?_
  haveI:Fro B s PaE ps:=⟨hr⟩
  have hsn:=hr.1
  unfold ref03_parts
  refine xloop2 (fun n (sum:Int) (x4:Int) As'=>∃ k:Nat,x4=(k:Int)∧n=ps.length - k∧k≤ps.length∧chkP 245 ps=chkP (245 - sum) (ps.drop k)∧0≤sum∧sum≤20002*(k:Int)∧As'=[]) ps.length ⟨0,rfl,by omega,by omega,rfl,by omega,by omega,rfl⟩ ?_
  rintro n sum _ _ K ⟨k,rfl,rfl,hk,he,r1,r2,rfl⟩ hK
  refine xif_dec (fun hlt=>?_) (fun hlt=>?_)
  · have hkl:k<ps.length:=by omega
    obtain ⟨⟨a,f,c⟩,hy⟩:∃ y,ps[k]? = some y:=⟨_,List.getElem?_eq_getElem hkl⟩
    have hdrop:ps.drop k=(a,f,c)::ps.drop (k+1):=by rw [List.drop_eq_getElem_cons hkl];congr 1;exact (List.getElem?_eq_some_iff.1 hy).2
    rw [hdrop,chkP] at he
    refine xidxn (E:=PaE) (xs:=ps) (s:=s) (h1:=hkl) (h:=fun _ _=>?_)
    refine xgetE (E:=PaE) (xs:=ps) hy (h:=?_)
    refine xgetEj (E:=PaE) (xs:=ps) hy (h:=?_)
    refine xgetEj (E:=PaE) (xs:=ps) hy (h:=?_)
    dsimp only
    refine xnew fun b2=>?_
    iterate 3 (refine xset (h:=?_))
    refine xget (h:=?_)
    have jn:∀ (P:Prop) [Decidable P] {φ:Bool→WP}{body:(Bool→WP)→WP},(∀ K1:Bool→WP,Ent B [Blk b2 [.int .i64 a,.int .i64 f,.int .i64 c]] (K1 (decide P))→Ent B [Blk b2 [.int .i64 a,.int .i64 f,.int .i64 c]] (body K1))→Ent B [Blk b2 [.int .i64 a,.int .i64 f,.int .i64 c]] (φ (decide P))→Ent B [Blk b2 [.int .i64 a,.int .i64 f,.int .i64 c]] (XJoin [.bool] body φ):=by
      intro P _ φ body h1 h2
      refine xjoin1 (fun(x:Bool) As'=>x=decide P∧As'=[Blk b2 [.int .i64 a,.int .i64 f,.int .i64 c]]) (fun K1 hK1=>h1 K1 (hK1 _ _ ⟨rfl,rfl⟩)) ?_
      rintro _ _ ⟨rfl,rfl⟩
      exact h2
    have tt:∀ {P:Prop} [Decidable P],P→decide P=true:=fun h=>decide_eq_true h
    refine jn (a<1∨a>65535) (fun K1 h1=>xif_dec (fun h=>?_) (fun h=>xget (h:=?_))) ?_
    · rw [tt (.inl h)] at h1;exact h1
    · rw [show decide (a>65535)=decide (a<1∨a>65535) by congr 1;apply propext;omega];exact h1
    refine jn ((a<1∨a>65535)∨f<0) (fun K1 h1=>xif_dec (fun h=>?_) (fun h=>xget (h:=?_))) ?_
    · rw [tt (.inl h)] at h1;exact h1
    · rw [show decide (f<0)=decide ((a<1∨a>65535)∨f<0) by congr 1;apply propext;omega];exact h1
    refine jn (((a<1∨a>65535)∨f<0)∨f>9999) (fun K1 h1=>xif_dec (fun h=>?_) (fun h=>xget (h:=?_))) ?_
    · rw [tt (.inl h)] at h1;exact h1
    · rw [show decide (f>9999)=decide (((a<1∨a>65535)∨f<0)∨f>9999) by congr 1;apply propext;omega];exact h1
    refine jn ((((a<1∨a>65535)∨f<0)∨f>9999)∨c<1) (fun K1 h1=>xif_dec (fun h=>?_) (fun h=>xget (h:=?_))) ?_
    · rw [tt (.inl h)] at h1;exact h1
    · rw [show decide (c<1)=decide ((((a<1∨a>65535)∨f<0)∨f>9999)∨c<1) by congr 1;apply propext;omega];exact h1
    refine jn (((((a<1∨a>65535)∨f<0)∨f>9999)∨c<1)∨c>10000 - f) (fun K1 h1=>xif_dec (fun h=>?_) (fun h=>xget (h:=xget (h:=?_)))) ?_
    · rw [tt (.inl h)] at h1;exact h1
    · rw [wrap_id (10000 - f) (by omega) (by omega),show decide (c>10000 - f)=decide (((((a<1∨a>65535)∨f<0)∨f>9999)∨c<1)∨c>10000 - f) by congr 1;apply propext;omega];exact h1
    have hpb:partB (a,f,c)=decide (((((a<1∨a>65535)∨f<0)∨f>9999)∨c<1)∨c>10000 - f):=by
      unfold partB
      rw [Bool.eq_iff_iff]
      simp only [Bool.or_eq_true,decide_eq_true_eq];omega
    rw [←hpb]
    refine xif (fun h=>?_) (fun h=>?_)
    · rw [if_pos h] at he
      exact xkeep (l:=[]) (xret ⟨he.symm,rfl⟩)
    · rw [if_neg (by rw [h];simp)] at he
      rw [h] at hpb
      have hb:=of_decide_eq_false hpb.symm
      refine xget (h:=?_)
      rw [wrap_id (sum+2) (by omega) (by omega),wrap_id (2*c) (by omega) (by omega),wrap_id _ (by omega) (by omega),wrap_succ k (by omega)]
      refine xuse [] (hK (ps.length - (k+1)) _ _ _ (by omega) ⟨k+1,rfl,rfl,by omega,?_,by omega,by omega,rfl⟩)
      rw [he];congr 1;simp only;omega
  · have:ps.drop k=[]:=List.drop_eq_nil_of_le (by omega)
    rw [this,chkP] at he
    refine xif_dec (fun h=>xret ⟨?_,rfl⟩) (fun h=>xret ⟨?_,rfl⟩)
    · rw [he,if_pos (by omega)]
    · rw [he,if_neg (by omega)]
theorem Check03_spec (addr count:Int) (on set s:Sl) (ps:List P3):Ct Pr F_ref03_Check [.agg #[.int .i64 20,.int .i64 addr,.int .i64 count,on.v,set.v,s.v]] .one [.int .i64] [] (RAr PaE s ps) (fun t Bs=>t.1=askF addr count on set ps∧Bs=[]):=by
  refine spec1 c_ref03_Check fun B hr=>?_
  haveI:Fro B s PaE ps:=⟨hr⟩
  have hsn:=hr.1
  have fin:∀ {x:Int}{As:List HP},x=askF addr count on set ps→Ent B As (Ret B (ss:=[.int .i64]) (fun r Bs=>r.1=askF addr count on set ps∧Bs=[]) (x,())):=fun h=>xkeep (l:=[]) (xret ⟨h,rfl⟩)
  unfold ref03_Check
  have hk:Ct Pr F_ref03_Known [.int .i64 20] .one [.bool] [] emp (fun t Bs=>t.1=true∧Bs=[]):=by
    refine spec1 c_ref03_Known fun B _=>?_
    unfold ref03_Known
    exact xret ⟨rfl,rfl⟩
  have hf:Ct Pr F_ref03_field [.agg #[.int .i64 20,.int .i64 addr,.int .i64 count,on.v,set.v,s.v]] .one [.bool] [] emp (fun t Bs=>t.1=decide (count≠0∨0<on.n∨0<set.n∨addr≠0)∧Bs=[]):=by
    refine spec1 c_ref03_field fun B _=>?_
    unfold ref03_field
    refine xnew fun b=>xget (h:=xget (h:=xjoin (xiff rfl (xget (h:=xget (h:=xjoin (xiff rfl (xget (h:=xget (h:=xjoin (xift rfl (xget (h:=?_)))))))))))))
    have jn:∀ (P:Prop) [Decidable P] {φ:Bool→WP}{body:(Bool→WP)→WP},(∀ K1:Bool→WP,Ent B [Blk b [.int .i64 20,.int .i64 addr,.int .i64 count,on.v,set.v,s.v]] (K1 (decide P))→Ent B [Blk b [.int .i64 20,.int .i64 addr,.int .i64 count,on.v,set.v,s.v]] (body K1))→Ent B [Blk b [.int .i64 20,.int .i64 addr,.int .i64 count,on.v,set.v,s.v]] (φ (decide P))→Ent B [Blk b [.int .i64 20,.int .i64 addr,.int .i64 count,on.v,set.v,s.v]] (XJoin [.bool] body φ):=by
      intro P _ φ body h1 h2
      refine xjoin1 (fun(x:Bool) As'=>x=decide P∧As'=[Blk b [.int .i64 20,.int .i64 addr,.int .i64 count,on.v,set.v,s.v]]) (fun K1 hK1=>h1 K1 (hK1 _ _ ⟨rfl,rfl⟩)) ?_
      rintro _ _ ⟨rfl,rfl⟩
      exact h2
    refine jn (count≠0∨0<on.n) (fun K1 h1=>xif (fun h=>?_) (fun h=>xjoin (xift rfl (xget (h:=?_))))) ?_
    · rw [decide_eq_true (.inl (by simpa using h))] at h1;exact h1
    · have:count=0:=by simpa using h
      rw [show decide (((on.n:Nat):Int)>0)=decide (count≠0∨0<on.n) by congr 1;apply propext;omega];exact h1
    refine jn (count≠0∨0<on.n∨0<set.n) (fun K1 h1=>xif_dec (fun h=>?_) (fun h=>xjoin (xift rfl (xget (h:=?_))))) ?_
    · rw [decide_eq_true (by omega:count≠0∨0<on.n∨0<set.n)] at h1;exact h1
    · rw [show decide (((set.n:Nat):Int)>0)=decide (count≠0∨0<on.n∨0<set.n) by congr 1;apply propext;omega];exact h1
    refine jn (count≠0∨0<on.n∨0<set.n) (fun K1 h1=>xif_dec (fun h=>?_) (fun h=>xjoin (xiff rfl ?_))) ?_
    · rw [decide_eq_true (by omega:count≠0∨0<on.n∨0<set.n)] at h1;exact h1
    · rw [decide_eq_false h] at h1;exact h1
    refine jn (count≠0∨0<on.n∨0<set.n∨addr≠0) (fun K1 h1=>xif_dec (fun h=>?_) (fun h=>xjoin (xift rfl (xget (h:=?_))))) (xkeep (l:=[]) (xret ⟨rfl,rfl⟩))
    · rw [decide_eq_true (by omega:count≠0∨0<on.n∨0<set.n∨addr≠0)] at h1;exact h1
    · rw [show (addr != 0)=decide (count≠0∨0<on.n∨0<set.n∨addr≠0) by rw [Bool.eq_iff_iff];simp;omega];exact h1
  have hmn:Ct Pr F_ref03_Many [.agg #[.int .i64 20,.int .i64 addr,.int .i64 count,on.v,set.v,s.v]] .one [.int .i64] [] emp (fun t Bs=>t.1=(s.n:Int)∧Bs=[]):=by
    refine spec1 c_ref03_Many fun B _=>?_
    unfold ref03_Many
    refine xnew fun b=>xget (h:=?_)
    repeat' (first | refine xjoin ?_ | refine xiff (by decide) ?_)
    exact xget (h:=xkeep (l:=[]) (xret ⟨rfl,rfl⟩))
  have hms:Ct Pr F_ref03_most [.int .i64 20] .one [.int .i64] [] emp (fun t Bs=>t.1=35∧Bs=[]):=by
    refine spec1 c_ref03_most fun B _=>?_
    unfold ref03_most
    repeat' (first | refine xjoin ?_ | refine xift rfl ?_ | refine xiff (by decide) ?_)
    exact xret ⟨rfl,rfl⟩
  refine xnew fun b=>xget (h:=?_)
  refine xcall0 hk rdb ?_
  rintro ⟨c,_⟩ _ ⟨hc,rfl⟩
  obtain rfl:c=true:=hc
  refine app0 (ca1 (xiff rfl ?_))
  iterate 6 (refine xget (h:=?_))
  refine xcall0 hf rdb ?_
  rintro ⟨c,_⟩ _ ⟨hc,rfl⟩
  simp only at hc;subst hc
  refine app0 (ca1 (xif_dec (fun h=>fin ?_) (fun h=>?_)))
  · unfold askF;rw [if_pos h]
  have e0:askF addr count on set ps=if ps.length<1∨35<ps.length then 22 else chkP 245 ps:=by unfold askF;rw [if_neg h]
  refine xget (h:=?_)
  refine xjoin1 (fun(x:Bool) As'=>x=false∧As'=[Blk b [.int .i64 20,.int .i64 addr,.int .i64 count,on.v,set.v,s.v]]) (fun K1 hK1=>xif_dec (fun h2=>by omega) (fun h2=>xget (h:=hK1 _ _ ⟨by simp;omega,rfl⟩))) ?_
  rintro _ _ ⟨rfl,rfl⟩
  refine xiff rfl ?_
  iterate 6 (refine xget (h:=?_))
  refine xcall0 hmn rdb ?_
  rintro ⟨n,_⟩ _ ⟨hn,rfl⟩
  obtain rfl:n=(s.n:Int):=hn
  refine app0 (ca1 ?_)
  refine xjoin1 (fun(x:Bool) As'=>x=decide (ps.length<1∨35<ps.length)∧As'=[Blk b [.int .i64 20,.int .i64 addr,.int .i64 count,on.v,set.v,s.v]]) (fun K1 hK1=>xif_dec (fun h2=>hK1 _ _ ⟨by symm;rw [decide_eq_true_eq];omega,rfl⟩) (fun h2=>xget (h:=?_))) ?_
  · refine xcall0 hms rdb ?_
    rintro ⟨n,_⟩ _ ⟨hn,rfl⟩
    obtain rfl:n=35:=hn
    exact app0 (ca1 (hK1 _ _ ⟨by rw [Bool.eq_iff_iff];simp only [decide_eq_true_eq];omega,rfl⟩))
  rintro _ _ ⟨rfl,rfl⟩
  refine xif_dec (fun h2=>fin ?_) (fun h2=>?_)
  · rw [e0,if_pos h2]
  rw [if_neg h2] at e0
  refine xget (h:=xift rfl (xget (h:=?_)))
  refine xcall0 (parts03_spec s ps (by omega)) rdb ?_
  rintro ⟨n,_⟩ _ ⟨hn,rfl⟩
  exact app0 (ca1 (fin (by rw [e0];exact hn)))
end Go.Cx
namespace Go.Cx
open Go Go.Cf
set_option linter.unusedVariables false
set_option maxRecDepth 100000
variable {B:Base}{As F:List HP}{α:Type}
theorem filesM_len {lg:LM}{X:XM}{span:Int}:∀ {ps:List P3}{fs:List (List Int)},filesM lg X span ps=some fs→fs.length=ps.length∧∀ w∈fs,w.length≤9988
  | [],fs,h=>by
    simp only [filesM,Option.some.injEq] at h
    subst h;exact ⟨rfl,fun w hw=>by simp at hw⟩
  | p::ps,fs,h=>by
    rw [filesM] at h
    split at h
    · cases h
    · obtain ⟨gs,h1,rfl⟩:=Option.map_eq_some_iff.1 h
      obtain ⟨h2,h3⟩:=filesM_len h1
      have hl:=fileM_len lg X span p.1
      refine ⟨by simp [h2],fun w hw=>?_⟩
      rcases List.mem_cons.1 hw with rfl | hw
      · rw [List.length_drop,List.length_take];omega
      · exact h3 w hw
theorem rDo26_spec (l x d:Option Addr) (lg:LM) (X:XM) (span code addr count:Int) (on set s:Sl) (ps:List P3):Ct Pr F_ref26_Do [.pointer l,.pointer x,.int .i64 span,.agg #[.int .i64 code,.int .i64 addr,.int .i64 count,on.v,set.v,s.v]] .agg [.int .i64,.slice,.slice,.slice] [RLogObj l d lg,RIdxObj x d l X] (RAr PaE s ps)
    (fun t Bs=>t.1=(doM lg X span code addr count on set ps).1∧t.2.1=⟨none,0,0⟩∧t.2.2.1=⟨none,0,0⟩∧Bs=[RLogObj l d lg,RIdxObj x d l X,RowsO t.2.2.2.1 (doM lg X span code addr count on set ps).2]):=by
  refine spec4 c_ref26_Do fun B hr=>?_
  haveI:Fro B s PaE ps:=⟨hr⟩
  have hsn:=hr.1
  have err:∀ {As G:List HP}{e:Int} [q:Split [RLogObj l d lg,RIdxObj x d l X] As G],doM lg X span code addr count on set ps=(e,[])→Ent B As (Ret B (ss:=[.int .i64,.slice,.slice,.slice]) (fun t Bs=>t.1=(doM lg X span code addr count on set ps).1∧t.2.1=⟨none,0,0⟩∧t.2.2.1=⟨none,0,0⟩∧Bs=[RLogObj l d lg,RIdxObj x d l X,RowsO t.2.2.2.1 (doM lg X span code addr count on set ps).2]) (e,⟨none,0,0⟩,⟨none,0,0⟩,⟨none,0,0⟩,())):=by
    intro As G e q h
    refine xuse [RLogObj l d lg,RIdxObj x d l X] (xnone SL ?_)
    refine xfold [Ar SL ⟨none,0,0⟩ []] (RowsO ⟨none,0,0⟩ []) (fun g hg=>⟨[],?_⟩) ?_
    · obtain ⟨a,b,p1,p2,p3,p4,p5⟩:=hg
      exact ⟨a,b,p1,⟨b,fun _=>none,trivial,trivial,fun _=>.inr rfl,Sub.refl _,fun _ _ e=>by cases e⟩,p3,p4,p5⟩
    refine xuse [RLogObj l d lg,RIdxObj x d l X,RowsO ⟨none,0,0⟩ []] (xret ⟨by rw [h],rfl,rfl,by rw [h]⟩)
  unfold ref26_Do
  refine xnew fun b=>xnew fun b1=>xget (h:=xif (fun h=>?_) (fun h=>?_))
  · iterate 4 (refine xset (h:=?_))
    refine xget (h:=xget (s:=.slice) (x:=⟨none,0,0⟩) (h:=xget (s:=.slice) (x:=⟨none,0,0⟩) (h:=xget (s:=.slice) (x:=⟨none,0,0⟩) (h:=?_))))
    refine err ?_
    unfold doM;rw [if_pos (by simpa using h)]
  obtain rfl:code=20:=by simpa using h
  have e0:doM lg X span 20 addr count on set ps=if askF addr count on set ps≠0 then ((3,[]):Int×List (List Int)) else match filesM lg X span ps with
    | none=>(2,[])
    | some fs=>(0,fs):=by unfold doM;(rw [if_neg (by simp)];rfl)
  iterate 6 (refine xget (h:=?_))
  refine xcall0 (Check03_spec addr count on set s ps) rdb ?_
  rintro ⟨e,_⟩ _ ⟨he,rfl⟩
  simp only at he;subst he
  refine app0 (ca1 (xif (fun h=>?_) (fun h=>?_)))
  · iterate 4 (refine xset (h:=?_))
    refine xget (h:=xget (s:=.slice) (x:=⟨none,0,0⟩) (h:=xget (s:=.slice) (x:=⟨none,0,0⟩) (h:=xget (s:=.slice) (x:=⟨none,0,0⟩) (h:=?_))))
    refine err ?_
    rw [e0,if_pos (by simpa using h)]
  have hask:askF addr count on set ps=0:=by simpa using h
  rw [if_neg (by simpa using h)] at e0
  have hpl:ps.length≤35∧chkP 245 ps=0:=by
    unfold askF at hask
    split at hask
    · cases hask
    · split at hask
      · cases hask
      · exact ⟨by omega,hask⟩
  have hpart:=chkP_ok ps 245 hpl.2
  refine xnew fun b2=>?_
  refine xnone SL ?_
  refine xfold [Ar SL ⟨none,0,0⟩ []] (RowsO ⟨none,0,0⟩ []) (fun g hg=>⟨[],?_⟩) ?_
  · obtain ⟨a,b,p1,p2,p3,p4,p5⟩:=hg
    exact ⟨a,b,p1,⟨b,fun _=>none,trivial,trivial,fun _=>.inr rfl,Sub.refl _,fun _ _ e=>by cases e⟩,p3,p4,p5⟩
  have S:∀ fl:Sl,(Value.slice fl.p fl.n fl.c)=fl.v:=fun _=>rfl
  refine xuse [RLogObj l d lg,RIdxObj x d l X,RowsO ⟨none,0,0⟩ [],Blk b [.int .i64 20,.int .i64 addr,.int .i64 count,on.v,set.v,s.v],Blk b1 [.int .i64 0,.slice none 0 0,.slice none 0 0,.slice none 0 0],Blk b2 [.int .i64 0,.slice none 0 0,.slice none 0 0,(⟨none,0,0⟩:Sl).v]] ?_
  refine xloop1 (fun n (z:Int) As'=>∃ (k:Nat) (fl:Sl) (done:List (List Int)),z=(k:Int)∧n=ps.length - k∧k≤ps.length∧done.length=k∧filesM lg X span ps=(filesM lg X span (ps.drop k)).map (done ++ ·)∧As'=[RLogObj l d lg,RIdxObj x d l X,RowsO fl done,Blk b [.int .i64 20,.int .i64 addr,.int .i64 count,on.v,set.v,s.v],Blk b1 [.int .i64 0,.slice none 0 0,.slice none 0 0,.slice none 0 0],Blk b2 [.int .i64 0,.slice none 0 0,.slice none 0 0,fl.v]]) ps.length ⟨0,⟨none,0,0⟩,[],rfl,rfl,by omega,rfl,by simp,rfl⟩ ?_
  rintro n _ _ K ⟨k,fl,done,rfl,rfl,hk,hdl,hfm,rfl⟩ hK
  refine xget (h:=xif_dec (fun hlt=>?_) (fun hlt=>?_))
  · have hkl:k<ps.length:=by omega
    obtain ⟨⟨a,f,c⟩,hy⟩:∃ y,ps[k]? = some y:=⟨_,List.getElem?_eq_getElem hkl⟩
    have hdrop:ps.drop k=(a,f,c)::ps.drop (k+1):=by rw [List.drop_eq_getElem_cons hkl];congr 1;exact (List.getElem?_eq_some_iff.1 hy).2
    have hpb:=hpart _ (List.mem_of_getElem? hy)
    unfold partB at hpb
    simp at hpb
    rw [hdrop,filesM] at hfm
    simp only at hfm hpb
    refine xget (h:=?_)
    refine xidxn (E:=PaE) (xs:=ps) (s:=s) (h1:=hkl) (h:=fun _ _=>?_)
    refine xgetE (E:=PaE) (xs:=ps) hy (h:=?_)
    refine xgetEj (E:=PaE) (xs:=ps) hy (h:=?_)
    refine xgetEj (E:=PaE) (xs:=ps) hy (h:=?_)
    dsimp only
    refine xnew fun b3=>?_
    iterate 3 (refine xset (h:=?_))
    refine xget (h:=?_)
    refine xcl (rFile26_spec l x d lg X span a) rdb ?_
    rintro ⟨s4,e1,_⟩ _ ⟨he1,rfl⟩
    simp only at he1;subst he1
    refine app3 (ca2 ?_)
    simp only
    have hfl9:=fileM_len lg X span a
    generalize hws:(fileM lg X span a).1=ws at *
    generalize hee:(fileM lg X span a).2=e at *
    refine xlen (E:=W16) (xs:=ws) s4 fun hwn hwc=>?_
    refine xuse [Ar W16 s4 ws,RLogObj l d lg,RIdxObj x d l X,RowsO fl done,Blk b [.int .i64 20,.int .i64 addr,.int .i64 count,on.v,set.v,s.v],Blk b1 [.int .i64 0,.slice none 0 0,.slice none 0 0,.slice none 0 0],Blk b2 [.int .i64 0,.slice none 0 0,.slice none 0 0,fl.v],Blk b3 [.int .i64 a,.int .i64 f,.int .i64 c]] ?_
    refine xjoin1 (fun(y:Bool) As'=>(y=true↔(e≠0∨f+c>(ws.length:Int)))∧As'=[Ar W16 s4 ws,RLogObj l d lg,RIdxObj x d l X,RowsO fl done,Blk b [.int .i64 20,.int .i64 addr,.int .i64 count,on.v,set.v,s.v],Blk b1 [.int .i64 0,.slice none 0 0,.slice none 0 0,.slice none 0 0],Blk b2 [.int .i64 0,.slice none 0 0,.slice none 0 0,fl.v],Blk b3 [.int .i64 a,.int .i64 f,.int .i64 c]]) (fun K1 hK1=>xif (fun h=>hK1 _ _ ⟨⟨fun _=>.inl (by simpa using h),fun _=>rfl⟩,rfl⟩) (fun h=>xget (h:=xget (h:=hK1 _ _ ⟨?_,rfl⟩)))) ?_
    · rw [wrap_id _ (by omega) (by omega)]
      have:e=0:=by simpa using h
      simp only [decide_eq_true_eq]
      omega
    rintro y _ ⟨hy1,rfl⟩
    refine xif (fun h=>?_) (fun h=>?_)
    · rw [if_pos (hy1.1 h)] at hfm
      iterate 4 (refine xset (h:=?_))
      refine xget (h:=xget (s:=.slice) (x:=⟨none,0,0⟩) (h:=xget (s:=.slice) (x:=⟨none,0,0⟩) (h:=xget (s:=.slice) (x:=⟨none,0,0⟩) (h:=?_))))
      refine err ?_
      rw [e0,hfm];rfl
    have hno:¬ (e≠0∨f+c>(ws.length:Int)):=fun q=>by rw [hy1.2 q] at h;cases h
    rw [if_neg hno] at hfm
    refine xdraw ?_
    refine xget (h:=?_)
    iterate 3 (refine xget (h:=?_))
    rw [wrap_id (f+c) (by omega) (by omega)]
    refine xslc (by omega) (by omega) (by omega) (by omega) ?_
    simp only [Int.toNat_natCast]
    have hrl:((ws.take (f+c).toNat).drop f.toNat).length≤20000:=by rw [List.length_drop,List.length_take];omega
    generalize hro:(ws.take (f+c).toNat).drop f.toNat=row at *
    refine xcall0 (CopyW_spec (s4.cut f.toNat (f+c).toNat s4.c 1) row (by omega)) (rds_of fun g a0 hF hs hm=>?_) ?_
    · obtain ⟨_,_,p1,_,_,t1,_⟩:=hs
      rw [←hro]
      exact (p1.read.mono (t1.trans hm)).cut f.toNat (f+c).toNat s4.c (by omega) (by omega) (by omega)
    rintro ⟨s6,_⟩ _ rfl
    refine app1 (ca1 (xchk (h:=xnew fun b4=>?_)))
    refine xuse [RowsO fl done,Blk b4 [s6.v],Ar W16 s6 row,RLogObj l d lg,RIdxObj x d l X,Blk b [.int .i64 20,.int .i64 addr,.int .i64 count,on.v,set.v,s.v],Blk b1 [.int .i64 0,.slice none 0 0,.slice none 0 0,.slice none 0 0],Blk b2 [.int .i64 0,.slice none 0 0,.slice none 0 0,fl.v]] ?_
    refine xopen 0 (fun Bs=>∃ rs:List Sl,rs.length=done.length∧Bs=[Ar SL fl rs,Each (Ar W16) rs done]) (fun g hg=>?_) ?_
    · obtain ⟨rs,hg⟩:=hg
      refine ⟨_,⟨rs,?_,rfl⟩,hg⟩
      obtain ⟨_,_,_,⟨_,_,pc,_⟩,_⟩:=hg
      exact Each.length pc
    rintro _ ⟨rs,hrs,rfl⟩
    refine app2 ?_
    refine xapp1 (E:=SL) s6 (hb:=by omega) (h:=fun s7=>?_)
    refine xset (h:=?_)
    refine xfold [Each (Ar W16) rs done,Ar W16 s6 row] (Each (Ar W16) (rs++[s6]) (done++[row])) (fun g hg=>each_snoc hg) ?_
    refine xfold [Ar SL s7 (rs++[s6]),Each (Ar W16) (rs++[s6]) (done++[row])] (RowsO s7 (done++[row])) (fun g hg=>⟨_,hg⟩) ?_
    refine xuse [RLogObj l d lg,RIdxObj x d l X,RowsO s7 (done++[row]),Blk b [.int .i64 20,.int .i64 addr,.int .i64 count,on.v,set.v,s.v],Blk b1 [.int .i64 0,.slice none 0 0,.slice none 0 0,.slice none 0 0],Blk b2 [.int .i64 0,.slice none 0 0,.slice none 0 0,s7.v]] ?_
    rw [wrap_succ k (by omega)]
    refine hK _ _ _ (by omega) ⟨k+1,s7,done++[row],rfl,rfl,by omega,by simp [hdl],?_,rfl⟩
    rw [hfm]
    cases filesM lg X span (ps.drop (k+1))<;>simp
  · rw [List.drop_of_length_le (by omega)] at hfm
    rw [hfm] at e0
    refine xget (h:=xget (s:=.slice) (x:=⟨none,0,0⟩) (h:=xget (s:=.slice) (x:=⟨none,0,0⟩) (h:=xget (h:=?_))))
    iterate 4 (refine xset (h:=?_))
    refine xget (h:=xget (s:=.slice) (x:=⟨none,0,0⟩) (h:=xget (s:=.slice) (x:=⟨none,0,0⟩) (h:=xget (h:=?_))))
    have e1:doM lg X span 20 addr count on set ps=(0,done):=by rw [e0];simp [filesM]
    refine xuse [RLogObj l d lg,RIdxObj x d l X,RowsO fl done] (xret ⟨by rw [e1],rfl,rfl,by rw [e1]⟩)
end Go.Cx
namespace Go.Cx
open Go Go.Cf
set_option linter.unusedVariables false
set_option maxRecDepth 100000
variable {B:Base}{As F:List HP}{α:Type}
theorem doM_n (lg:LM) (X:XM) (span code addr count:Int) (on set on' set':Sl) (ps:List P3) (h1:on'.n=on.n) (h2:set'.n=set.n):doM lg X span code addr count on' set' ps=doM lg X span code addr count on set ps:=by
  unfold doM askF;rw [h1,h2]
theorem doM_len (lg:LM) (X:XM) (span code addr count:Int) (on set:Sl) (ps:List P3):(doM lg X span code addr count on set ps).2.length≤ps.length∧∀ w∈(doM lg X span code addr count on set ps).2,w.length≤9988:=by
  unfold doM
  split
  · exact ⟨by simp,fun w hw=>by simp at hw⟩
  · split
    · exact ⟨by simp,fun w hw=>by simp at hw⟩
    · cases h:filesM lg X span ps with
      | none=>exact ⟨by simp,fun w hw=>by simp at hw⟩
      | some fs=>
        obtain ⟨h1,h2⟩:=filesM_len h
        exact ⟨by simp only;omega,h2⟩
theorem nil_rd {E:Enc α}{s:Sl}(h:s=⟨none,0,0⟩) {g:Frag}:RAr E s [] g:=by
  subst h
  exact ⟨rfl,by simp [flat],fun h=>absurd h (by simp)⟩
theorem xnil_ar (E:Enc α) {s:Sl}(h:s=⟨none,0,0⟩) {φ:WP}(k:Ent B (Ar E s []::As) φ):Ent B As φ:=by subst h;exact xnone E k
theorem does_law (s0:Sl) (rs:List Sl) (ps:List (List UInt8)) (to:Int) (s2:Sl) (ys:List KY) (span a0 a1 a2:Int) (a3 a4 a5:Sl) (on:List Bool) (us:List Int) (pp:List P3) :
    Ct Pr F_law26_HistoryDoes [.agg #[s0.v,.int .i64 to,s2.v],.int .i64 span,.agg #[.int .i64 a0,.int .i64 a1,.int .i64 a2,a3.v,a4.v,a5.v]] .one [.bool] [] ((((RowsAt s0 rs ps).and (RAr KE s2 ys)).and GTab).and (((RAr BL a3 on).and (RAr W16 a4 us)).and (RAr PaE a5 pp))) (fun t Bs=>t.1=true∧Bs=[]):=by
  refine spec1 c_law26_HistoryDoes fun B hr=>?_
  obtain ⟨⟨⟨hrows,hkeys⟩,hg⟩,⟨r1,r2⟩,r3⟩:=hr
  haveI:FroP B GTab:=⟨hg,fun _ _ h s=>GTab.mono _ _ h s⟩
  haveI:FroP B (RowsAt s0 rs ps):=⟨hrows,fun g h ⟨x1,x2,x3⟩ s=>⟨x1.mono s,x2,fun i r x hr hx=>(x3 i r x hr hx).mono s⟩⟩
  haveI:Fro B s2 KE ys:=⟨hkeys⟩
  haveI:Fro B a3 BL on:=⟨r1⟩
  haveI:Fro B a4 W16 us:=⟨r2⟩
  haveI:Fro B a5 PaE pp:=⟨r3⟩
  have hn3:=r1.1
  have hn4:=r2.1
  have hn5:=r3.1
  have hyn:ys.length=s2.n:=hkeys.1
  have hrl:rs.length=ps.length:=hrows.2.1
  have hsn0:rs.length=s0.n:=hrows.1.1
  have fin:∀ {As:List HP},Ent B As (Ret B (ss:=[.bool]) (fun t Bs=>t.1=true∧Bs=[]) (true,())):=xkeep (l:=[]) (xret ⟨rfl,rfl⟩)
  have works:∀ {As:List HP}{K:Bool→WP},Ent B As (K true)→Ent B As (XCall Pr F_law26_works [] .one [.bool] K):=by
    intro As K hK
    refine xcall0 works26_spec rdb ?_
    rintro ⟨c,_⟩ _ ⟨hc,rfl⟩
    simp only at hc;subst hc
    exact app0 (ca1 hK)
  unfold law26_HistoryDoes
  refine xnew fun b=>xnew fun b1=>xget (h:=xget (h:=xget (h:=?_)))
  refine xcall0 (great26b_spec s0 to s2 rs ps) rdb ?_
  rintro ⟨c,_⟩ _ ⟨hc,rfl⟩
  simp only at hc
  refine app0 (ca1 ?_)
  refine xjoin1 (fun(c1:Bool) As'=>(c1=false→c=false∧a3.n≤70000∧a4.n≤70000∧a5.n≤70000)∧As'=[Blk b1 [.int .i64 a0,.int .i64 a1,.int .i64 a2,a3.v,a4.v,a5.v],Blk b [s0.v,.int .i64 to,s2.v]]) (fun K1 hK1=>xif (fun h=>hK1 _ _ ⟨fun e=>(by cases e),rfl⟩) (fun h=>?_)) ?_
  · iterate 6 (refine xget (h:=?_))
    refine xcall0 (LongAsk_spec a0 a1 a2 a3 a4 a5) rdb ?_
    rintro ⟨c2,_⟩ _ ⟨hc2,rfl⟩
    exact app0 (ca1 (hK1 _ _ ⟨fun e=>⟨h,hc2 e⟩,rfl⟩))
  rintro c1 _ ⟨hc1,rfl⟩
  refine xif (fun h=>works fin) (fun h=>?_)
  obtain ⟨h0,hl3,hl4,hl5⟩:=hc1 h
  obtain ⟨h600,h100⟩:=hc h0
  refine xget (h:=xget (h:=xget (h:=?_)))
  obtain ⟨gs,safe,f1,f2,f3,f4,f5⟩:=laidL_rel ps (by omega)
  have hcalm:calm (trimL (laidL ps).1 (laidL ps).2 to 1).1:=trim_calm ⟨f4,f5⟩ _ _ _
  have hlinv0:LInv (laidL ps).2:=by rw [f1];exact f2.linv (by omega)
  have hi:LInv (trimL (laidL ps).1 (laidL ps).2 to 1).2.1:=trim_inv hlinv0 _ _ _
  have hnx:(trimL (laidL ps).1 (laidL ps).2 to 1).2.1.next=gs.flatten.length:=by rw [trim_next,f1,next_of]
  have hlo0:=hi.lo
  have hT:∀ q p,Ct Pr F_segs_Log_Trim [.pointer q,.int .i64 to,.int .i64 1] .one [.int .i64] [LogObj q p (laidL ps).2,DevObj p (laidL ps).1] GTab (fun t Bs=>Bs=[LogObj q p (trimL (laidL ps).1 (laidL ps).2 to 1).2.1,DevObj p (trimL (laidL ps).1 (laidL ps).2 to 1).1]):=fun q p=>segTrim_spec q p (laidL ps).1 (laidL ps).2 to
  have hsaid:=said26_spec s0 rs ps to s2 ys (by omega) (by omega)
  generalize (trimL (laidL ps).1 (laidL ps).2 to 1).1=m1 at *
  generalize (trimL (laidL ps).1 (laidL ps).2 to 1).2.1=lg at *
  refine xcall0 (laid26_spec s0 rs ps to s2 ys (by omega) (by omega) (m1,lg) hT hcalm.2 hcalm.1 (by simp only;omega)) (rds_and (rds_and rdb rdb) rdb) ?_
  rintro ⟨l,x,c,_⟩ _ ⟨hc1,d,m,rfl⟩
  simp only at hc1;subst hc1
  refine app3 (ca3 (xiff rfl ?_))
  simp only
  refine xget (h:=xget (h:=xget (h:=?_)))
  refine xcall0 hsaid (rds_and rdb rdb) ?_
  rintro ⟨l2,x2,_⟩ _ ⟨d2,m2,rfl⟩
  refine app3 (ca2 ?_)
  simp only
  have hal:=addAll_len ys (openX lg)
  have hai:=addAll_i64 ys (openX lg)
  have hN:lg.next - lg.lo≤600:=by omega
  obtain ⟨o1,o2,o3⟩:=openG lg (lg.next - lg.lo).toNat
  rw [show openTo lg (lg.next - lg.lo).toNat=openX lg from rfl] at o1 o2 o3
  have hXl0:(openX lg).L.length≤600:=by
    have:=o3 fun _=>true
    rw [List.filter_eq_self.2 (fun _ _=>rfl)] at this
    have h9:=cntG_le lg (fun _=>true) (lg.next - lg.lo).toNat
    omega
  have hXi:=hai fun y hy=>by
    obtain ⟨i,a1,a2,rfl⟩:=(o2 y).1 hy
    show i64 (lg.lo+i)
    exact ⟨by omega,by omega⟩
  have hXl:(addAll (openX lg) ys).L.length≤1000000:=by omega
  generalize addAll (openX lg) ys=X at *
  refine xuse [Blk b1 [.int .i64 a0,.int .i64 a1,.int .i64 a2,a3.v,a4.v,a5.v],RLogObj l2 d2 lg,RIdxObj x2 d2 l2 X,LogObj l d lg,IdxObj x d l X] ?_
  iterate 6 (refine xget (h:=?_))
  refine xcall0 (LentAsk_spec a0 a1 a2 a3 a4 a5 on us pp (by omega) (by omega) (by omega)) (rds_and (rds_and rdb rdb) rdb) ?_
  rintro ⟨n0,n1,n2,t3,t4,t5,_⟩ _ ⟨e0,e1,e2,rfl⟩
  simp only at e0 e1 e2;subst e0 e1 e2
  refine app3 (ca6 (xnew fun b2=>?_))
  simp only
  iterate 6 (refine xset (h:=?_))
  refine xfact 1 (P1:=Ars BL t3 on (List.replicate 5 true)) (fun g hg=>hg.read.1) fun q3=>?_
  refine xfact 2 (P1:=Ars W16 t4 us (List.replicate 5 42330)) (fun g hg=>hg.read.1) fun q4=>?_
  have hD:=doM_n lg X span n0 n1 n2 a3 a4 t3 t4 pp (by omega) (by omega)
  obtain ⟨hD1,hD2⟩:=doM_len lg X span n0 n1 n2 a3 a4 pp
  iterate 6 (refine xget (h:=?_))
  refine xcl (Do_spec l x d lg X span n0 n1 n2 t3 t4 t5 pp hXl hXi) rdb ?_
  rintro ⟨u0,u1,u2,u3,_⟩ _ ⟨e0,hu1,hu2,rfl⟩
  simp only at e0 hu1 hu2
  rw [hD] at e0
  subst e0
  refine app3 (ca4 (xnew fun b3=>?_))
  simp only
  rw [hD]
  iterate 4 (refine xset (h:=?_))
  iterate 6 (refine xget (h:=?_))
  refine xcl (Do_spec l x d lg X span n0 n1 n2 t3 t4 t5 pp hXl hXi) rdb ?_
  rintro ⟨v0,v1,v2,v3,_⟩ _ ⟨e0,hv1,hv2,rfl⟩
  simp only at e0 hv1 hv2
  rw [hD] at e0
  subst e0
  refine app3 (ca4 (xnew fun b4=>?_))
  simp only
  rw [hD]
  iterate 4 (refine xset (h:=?_))
  iterate 6 (refine xget (h:=?_))
  refine xcl (rDo26_spec l2 x2 d2 lg X span n0 n1 n2 a3 a4 a5 pp) rdb ?_
  rintro ⟨w0,w1,w2,w3,_⟩ _ ⟨e0,hw1,hw2,rfl⟩
  simp only at e0 hw1 hw2
  subst e0
  refine app3 (ca4 (xnew fun b5=>?_))
  simp only
  iterate 4 (refine xset (h:=?_))
  generalize (doM lg X span n0 n1 n2 a3 a4 pp).1=e at *
  generalize (doM lg X span n0 n1 n2 a3 a4 pp).2=fs at *
  haveI:Fro B u1 BL []:=⟨nil_rd hu1⟩
  haveI:Fro B u2 W16 []:=⟨nil_rd hu2⟩
  haveI:Fro B v1 BL []:=⟨nil_rd hv1⟩
  haveI:Fro B v2 W16 []:=⟨nil_rd hv2⟩
  haveI:Fro B w1 BL []:=⟨nil_rd hw1⟩
  haveI:Fro B w2 W16 []:=⟨nil_rd hw2⟩
  have hfw:∀ w∈fs,w.length≤1000000:=fun w hw=>by have:=hD2 w hw;omega
  iterate 8 (refine xget (h:=?_))
  refine xcall0 (SameReply_spec e u1 u2 u3 w1 w2 w3 [] [] fs (by simp) (by simp) (by omega) hfw) (rds_and (rds_and rdb rdb) (rds_and (rds_and rdb rdb) (rds_and rdb rdb))) ?_
  rintro ⟨c,_⟩ _ ⟨hc,rfl⟩
  obtain rfl:c=true:=hc
  refine app0 (ca1 (xjoin (xiff rfl ?_)))
  iterate 8 (refine xget (h:=?_))
  refine xcall0 (SameReply_spec e v1 v2 v3 w1 w2 w3 [] [] fs (by simp) (by simp) (by omega) hfw) (rds_and (rds_and rdb rdb) (rds_and (rds_and rdb rdb) (rds_and rdb rdb))) ?_
  rintro ⟨c,_⟩ _ ⟨hc,rfl⟩
  obtain rfl:c=true:=hc
  refine app0 (ca1 (xjoin (xiff rfl ?_)))
  iterate 12 (refine xget (h:=?_))
  refine xcall0 (KeptAsk_spec n0 n1 n2 t3 t4 t5 a3 a4 a5 on us pp (by omega) (by omega) (by omega)) (rds_and (rds_and (rds_and rdb rdb) rdb) (rds_and (rds_and rdb rdb) rdb)) ?_
  rintro ⟨c,_⟩ _ ⟨hc,rfl⟩
  obtain rfl:c=true:=hc
  refine app0 (ca1 (xiff rfl ?_))
  iterate 4 (refine xget (h:=?_))
  refine xnil_ar BL hu1 (xnil_ar W16 hu2 ?_)
  refine xcl (SpoilReply_spec e u1 u2 u3 [] [] fs) rdb ?_
  rintro _ _ rfl
  refine app0 (ca0 ?_)
  iterate 8 (refine xget (h:=?_))
  refine xcall0 (SameReply_spec e v1 v2 v3 w1 w2 w3 [] [] fs (by simp) (by simp) (by omega) hfw) (rds_and (rds_and rdb rdb) (rds_and (rds_and rdb rdb) (rds_and rdb rdb))) ?_
  rintro ⟨c,_⟩ _ ⟨hc,rfl⟩
  obtain rfl:c=true:=hc
  refine app0 (ca1 (xjoin (xift rfl ?_)))
  iterate 12 (refine xget (h:=?_))
  refine xcall0 (KeptAsk_spec n0 n1 n2 t3 t4 t5 a3 a4 a5 on us pp (by omega) (by omega) (by omega)) (rds_and (rds_and (rds_and rdb rdb) rdb) (rds_and (rds_and rdb rdb) rdb)) ?_
  rintro ⟨c,_⟩ _ ⟨hc,rfl⟩
  obtain rfl:c=true:=hc
  exact app0 (ca1 (xjoin (xift rfl (works fin))))
end Go.Cx
namespace Go.Cx
open Go Go.Cf
set_option linter.unusedVariables false
set_option maxRecDepth 100000
variable {B:Base}{As F:List HP}{α:Type}
abbrev tru:Tup [.bool]→List HP→Prop:=fun t Bs=>t.1=true∧Bs=[]
theorem files_rr (s0:Sl) (ps:List (List UInt8)) (to:Int) (s2:Sl) (ys:List KY) (span file:Int):Ct Pr F_law26_HistoryFiles [.agg #[s0.v,.int .i64 to,s2.v],.int .i64 span,.int .i64 file] .one [.bool] [] (((RRows s0 ps).and (RAr KE s2 ys)).and GTab) tru:=
  fun w g a b ⟨⟨⟨rs,h⟩,k⟩,t⟩=>files_law s0 rs ps to s2 ys span file w g a b ⟨⟨h,k⟩,t⟩
theorem exact_rr (s0:Sl) (ps:List (List UInt8)) (to:Int) (s2:Sl) (span file:Int):Ct Pr F_law26_HistoryExact [.agg #[s0.v,.int .i64 to,s2.v],.int .i64 span,.int .i64 file] .one [.bool] [] ((RRows s0 ps).and GTab) tru:=
  fun w g a b ⟨⟨rs,h⟩,t⟩=>exact_spec s0 rs ps to s2 span file w g a b ⟨h,t⟩
theorem does_rr (s0:Sl) (ps:List (List UInt8)) (to:Int) (s2:Sl) (ys:List KY) (span a0 a1 a2:Int) (a5:Sl) (pp:List P3) :
    Ct Pr F_law26_HistoryDoes [.agg #[s0.v,.int .i64 to,s2.v],.int .i64 span,.agg #[.int .i64 a0,.int .i64 a1,.int .i64 a2,.slice none 0 0,.slice none 0 0,a5.v]] .one [.bool] [] ((((RRows s0 ps).and (RAr KE s2 ys)).and GTab).and (RAr PaE a5 pp)) tru:=
  fun w g a b ⟨⟨⟨⟨rs,h⟩,k⟩,t⟩,p⟩=>does_law s0 rs ps to s2 ys span a0 a1 a2 ⟨none,0,0⟩ ⟨none,0,0⟩ a5 [] [] pp w g a b ⟨⟨⟨h,k⟩,t⟩,⟨nil_rd rfl,nil_rd rfl⟩,p⟩
theorem kRow_spec (n:Int) (h0:0≤n) (h1:n≤1000000):Ct Pr F_kit_Row [.int .i64 n] .one [.slice] [] emp (fun t Bs=>∃ bs:List UInt8,Bs=[Ar U8 t.1 bs]):=by
  refine spec1 c_kit_Row fun B _=>?_
  unfold kit_Row
  have e:(if n>0 then n else 0)=n:=by split<;>omega
  rw [e]
  refine xmake U8 (by omega) (by omega) (h:=fun b=>?_)
  refine xloop1 (fun m (x:Int) As'=>∃ (k:Nat) (ys:List UInt8),x=(k:Int)∧m=n.toNat - k∧k≤n.toNat∧ys.length=n.toNat∧As'=[Ar U8 ⟨some ⟨b,0,none⟩,n.toNat,n.toNat⟩ ys]) n.toNat ⟨0,List.replicate n.toNat 0,rfl,rfl,by omega,by simp,rfl⟩ ?_
  rintro m _ _ K ⟨k,ys,rfl,rfl,hk,hl,rfl⟩ hK
  refine xif_dec (fun h=>?_) (fun h=>xret ⟨ys,rfl⟩)
  simp only at h
  refine xidxn (h1:=by omega) (h:=fun y hy=>?_)
  rw [wrap_id ((k:Int)*7) (by omega) (by omega),wrap_id _ (by omega) (by omega),show (k:Int)*7+1=((k*7+1:Nat):Int) by omega,wrap_u8]
  refine xsetE (E:=U8) (UInt8.ofNat (k*7+1)) hy (hv:=by simp [U8,UInt8.toNat_ofNat']) (h:=?_)
  rw [wrap_succ k (by omega)]
  exact hK (n.toNat - (k+1)) _ _ (by omega) ⟨k+1,_,rfl,rfl,by omega,by simpa using hl,rfl⟩
theorem rows_cut {s:Sl}{ps:List (List UInt8)}{g:Frag}(h:RRows s ps g) (r:Nat) (hr:r≤ps.length) (hc:s.n≤s.c):RRows (s.cut 0 r s.c 1) (ps.take r) g:=by
  obtain ⟨rs,h1,h2,h3⟩:=h
  have hn:=h1.1
  refine ⟨rs.take r,?_,by simp [h2],fun i x y hx hy=>?_⟩
  · have:=h1.cut 0 r s.c (by omega) (by omega) (by omega)
    rwa [List.drop_zero] at this
  · rw [List.getElem?_take] at hx hy
    split at hx
    · rename_i hi
      rw [if_pos hi] at hy
      exact h3 i x y hx hy
    · cases hx
theorem each1 {R:Sl→List UInt8→HP}{x:Sl}{y:List UInt8}{g:Frag}(h:star [R x y] g):Each R [x] [y] g:=each_take (xs:=[]) (ys:=[]) (fun _ h=>h) (fun _ _=>trivial) h
theorem orows_of {s:Sl}{rs:List Sl}{ps:List (List UInt8)}{l:List HP}(h2:∀ g,star l g→Each (Ar U8) rs ps g) {G:List HP} [q:Split (Ar SL s rs::l) As G] {φ:WP}(k:Ent B (ORows s ps::G) φ):Ent B As φ:=by
  refine xfold (Ar SL s rs::l) (ORows s ps) (fun g hg=>⟨rs,?_⟩) k
  obtain ⟨a,b,p1,p2,p3,p4,p5⟩:=hg
  exact ⟨a,b,p1,⟨b,fun _=>none,h2 _ p2,trivial,fun _=>.inr rfl,Sub.refl _,fun _ _ e=>by cases e⟩,p3,p4,p5⟩
abbrev ks5:List KY:=[(4,9),(1,3)]
abbrev ns15:List Int:=[-9223372036854775808,-1,0,1,2,3,4,10,65535,65536,1048576,1048577,1099511627776,1099511627777,9223372036854775807]
theorem full_spec:Ct Pr F_law26_knownFull [] .one [.bool] [] GTab tru:=by
  refine spec1 c_law26_knownFull fun B hg=>?_
  haveI:FroP B GTab:=⟨hg,fun _ _ h s=>GTab.mono _ _ h s⟩
  have nk:∀ g:Frag,RAr KE ⟨none,0,0⟩ [] g:=fun g=>nil_rd rfl
  haveI:Fro B ⟨none,0,0⟩ KE []:=⟨nk _⟩
  unfold law26_knownFull
  refine xnew fun b=>xnone SL ?_
  refine orows_of (s:=⟨none,0,0⟩) (rs:=[]) (ps:=[]) (l:=[]) (fun _ _=>trivial) ?_
  refine xuse [ORows ⟨none,0,0⟩ [],Blk b [(⟨none,0,0⟩:Sl).v,.int .i64 0,.slice none 0 0]] ?_
  refine xloop1 (fun n (x:Int) As'=>∃ (k:Nat) (s:Sl) (ps:List (List UInt8)),x=(k:Int)∧n=460 - k∧k≤460∧ps.length=k∧As'=[ORows s ps,Blk b [s.v,.int .i64 0,.slice none 0 0]]) 460 ⟨0,⟨none,0,0⟩,[],rfl,rfl,by omega,rfl,rfl⟩ ?_
  rintro n _ _ K ⟨k,s,ps,rfl,rfl,hk,hl,rfl⟩ hK
  refine xif_dec (fun h=>?_) (fun h=>?_)
  · refine xdraw (xget (h:=xasrt (by decide) ?_))
    refine xcall0 (sample26_spec _) rdb ?_
    rintro ⟨s1,_⟩ _ rfl
    refine app1 (ca1 (xchk (h:=xnew fun b1=>?_)))
    refine xuse [ORows s ps,Blk b1 [s1.v],Ar U8 s1 (putE (smp (IntKind.i64.wrap ((k:Int).tdiv 10)))).1,Blk b [s.v,.int .i64 0,.slice none 0 0]] ?_
    generalize (putE (smp (IntKind.i64.wrap ((k:Int).tdiv 10)))).1=row at *
    refine xopen 0 (fun Bs=>∃ rs:List Sl,rs.length=ps.length∧Bs=[Ar SL s rs,Each (Ar U8) rs ps]) (fun g hg=>?_) ?_
    · obtain ⟨rs,hg⟩:=hg
      refine ⟨_,⟨rs,?_,rfl⟩,hg⟩
      obtain ⟨_,_,_,⟨_,_,pc,_⟩,_⟩:=hg
      exact Each.length pc
    rintro _ ⟨rs,hrs,rfl⟩
    refine app2 ?_
    refine xapp1 (E:=SL) s1 (hb:=by omega) (h:=fun s2=>?_)
    refine xset (h:=?_)
    refine xfold [Each (Ar U8) rs ps,Ar U8 s1 row] (Each (Ar U8) (rs++[s1]) (ps++[row])) (fun g hg=>each_snoc hg) ?_
    refine xfold [Ar SL s2 (rs++[s1]),Each (Ar U8) (rs++[s1]) (ps++[row])] (ORows s2 (ps++[row])) (fun g hg=>⟨_,hg⟩) ?_
    rw [wrap_succ k (by omega)]
    exact xuse' (hK (460 - (k+1)) _ _ (by omega) ⟨k+1,s2,ps++[row],rfl,rfl,by omega,by simp [hl],rfl⟩)
  have hl460:ps.length=460:=by omega
  clear hK hk
  have files:∀ {As:List HP}{to x y:Int}{K:Bool→WP},Rds B As (RRows s ps)→Ent B As (K true)→Ent B As (XCall Pr F_law26_HistoryFiles [.agg #[s.v,.int .i64 to,.slice none 0 0],.int .i64 x,.int .i64 y] .one [.bool] K):=by
    intro As to x y K hr hK
    refine xcall0 (files_rr s ps to ⟨none,0,0⟩ [] x y) (rds_and (rds_and hr rdb) rdb) ?_
    rintro ⟨c,_⟩ _ ⟨hc,rfl⟩
    obtain rfl:c=true:=hc
    exact app0 (ca1 hK)
  refine xfact 0 (P1:=ORows s ps) (p':=ps.length=s.n∧s.n≤s.c) (fun g hg=>?_) fun hsn=>?_
  · obtain ⟨rs,_,_,⟨zs,pa⟩,⟨_,_,pc,_⟩,_⟩:=hg
    have h1:=pa.read.1
    have h2:=Each.length pc
    exact ⟨by omega,by have:=pa.2.1;omega⟩
  refine xloop1 (fun n (x:Int) As'=>∃ k:Nat,x=((1+k:Nat):Int)∧n=7 - k∧k≤7∧As'=[ORows s ps,Blk b [s.v,.int .i64 0,.slice none 0 0]]) 7 ⟨0,rfl,rfl,by omega,rfl⟩ ?_
  rintro n _ _ K ⟨k2,rfl,rfl,hk2,rfl⟩ hK
  refine xif_dec (fun h2=>?_) (fun h2=>?_)
  · refine xget (h:=xget (h:=xget (s:=.slice) (x:=⟨none,0,0⟩) (h:=files rdb (xjoin (xiff rfl ?_)))))
    refine xget (h:=xget (h:=xget (s:=.slice) (x:=⟨none,0,0⟩) (h:=files rdb (xiff rfl ?_))))
    rw [wrap_succ (1+k2) (by omega)]
    exact hK (7 - (k2+1)) _ _ (by omega) ⟨k2+1,rfl,rfl,by omega,rfl⟩
  refine xset (h:=?_)
  refine xloop1 (fun n (x:Int) As'=>∃ k:Nat,x=((1+3*k:Nat):Int)∧n=17 - k∧k≤17∧As'=[ORows s ps,Blk b [s.v,.int .i64 300,.slice none 0 0]]) 17 ⟨0,rfl,rfl,by omega,rfl⟩ ?_
  rintro n _ _ K ⟨k3,rfl,rfl,hk3,rfl⟩ hK
  refine xif_dec (fun h3=>?_) (fun h3=>?_)
  · refine xget (h:=xget (h:=xget (s:=.slice) (x:=⟨none,0,0⟩) (h:=files rdb (xjoin (xiff rfl (xget (h:=?_)))))))
    refine xslc (by omega) (by omega) (by omega) (by omega) ?_
    simp only [Int.toNat_natCast]
    rw [show (0:Int).toNat=0 from rfl,show (390:Int).toNat=390 from rfl]
    refine xcall0 (exact_rr (s.cut 0 390 s.c 1) (ps.take 390) 300 ⟨none,0,0⟩ 1 _) (rds_and (rds_pick 0 (P:=ORows s ps) (fun g hg=>rows_cut hg.read 390 (by omega) hsn.2) (fun _ _ h s=>h.mono s)) rdb) ?_
    rintro ⟨c,_⟩ _ ⟨hc,rfl⟩
    obtain rfl:c=true:=hc
    refine app0 (ca1 (xiff rfl ?_))
    rw [wrap_id _ (by omega) (by omega),show ((1+3*k3:Nat):Int)+3=((1+3*(k3+1):Nat):Int) by omega]
    exact hK (17 - (k3+1)) _ _ (by omega) ⟨k3+1,rfl,rfl,by omega,rfl⟩
  refine xuse [] ?_
  refine xcall0 (sample26_spec 1) rdb ?_
  rintro ⟨x1,_⟩ _ rfl
  refine app1 (ca1 ?_)
  refine xcall0 (kRow_spec 1018 (by omega) (by omega)) rdb ?_
  rintro ⟨x2,_⟩ _ ⟨q2,rfl⟩
  refine app1 (ca1 ?_)
  refine xcall0 (kRow_spec 1018 (by omega) (by omega)) rdb ?_
  rintro ⟨x3,_⟩ _ ⟨q3,rfl⟩
  refine app1 (ca1 ?_)
  refine xcall0 (sample26_spec 9) rdb ?_
  rintro ⟨x4,_⟩ _ rfl
  refine app1 (ca1 (xnew fun b2=>xnew fun b3=>?_))
  simp only
  iterate 3 (refine xset (h:=?_))
  generalize (putE (smp 1)).1=q1
  generalize (putE (smp 9)).1=q4
  refine xfold [Blk b2 [x1.v,x2.v,x3.v,x4.v]] (Ar SL ⟨some ⟨b2,0,none⟩,4,4⟩ [x1,x2,x3,x4]) (fun g hg=>?_) ?_
  · obtain ⟨a,_,pa,_,_,sa,_⟩:=hg
    obtain ⟨e,fr,hb,hf⟩:=pa
    exact ⟨[],blk_ar [x1,x2,x3,x4] 4 rfl rfl ⟨e,fr,sa _ _ hb,hf⟩⟩
  refine orows_of (s:=⟨some ⟨b2,0,none⟩,4,4⟩) (rs:=[x1,x2,x3,x4]) (ps:=[q1,q2,q3,q4]) (l:=[Ar U8 x1 q1,Ar U8 x2 q2,Ar U8 x3 q3,Ar U8 x4 q4]) (fun g hg=>each_take (fun _ h=>h) (fun g hg=>each_take (fun _ h=>h) (fun g hg=>each_take (fun _ h=>h) (fun g hg=>each1 hg) hg) hg) hg) ?_
  refine xcall0 (sample26_spec 1) rdb ?_
  rintro ⟨y1,_⟩ _ rfl
  refine app1 (ca1 ?_)
  refine xcall0 (kRow_spec 1018 (by omega) (by omega)) rdb ?_
  rintro ⟨y2,_⟩ _ ⟨p2,rfl⟩
  refine app1 (ca1 ?_)
  refine xcall0 (kRow_spec 1018 (by omega) (by omega)) rdb ?_
  rintro ⟨y3,_⟩ _ ⟨p3,rfl⟩
  refine app1 (ca1 (xnew fun b4=>xnew fun b5=>?_))
  simp only
  iterate 3 (refine xset (h:=?_))
  generalize (putE (smp 1)).1=p1
  refine xfold [Blk b4 [y1.v,y2.v,y3.v]] (Ar SL ⟨some ⟨b4,0,none⟩,3,3⟩ [y1,y2,y3]) (fun g hg=>?_) ?_
  · obtain ⟨a,_,pa,_,_,sa,_⟩:=hg
    obtain ⟨e,fr,hb,hf⟩:=pa
    exact ⟨[],blk_ar [y1,y2,y3] 3 rfl rfl ⟨e,fr,sa _ _ hb,hf⟩⟩
  refine orows_of (s:=⟨some ⟨b4,0,none⟩,3,3⟩) (rs:=[y1,y2,y3]) (ps:=[p1,p2,p3]) (l:=[Ar U8 y1 p1,Ar U8 y2 p2,Ar U8 y3 p3]) (fun g hg=>each_take (fun _ h=>h) (fun g hg=>each_take (fun _ h=>h) (fun g hg=>each1 hg) hg) hg) ?_
  clear hK files
  have filesT:∀ {As:List HP}{t:Sl}{ps:List (List UInt8)}{to x y:Int}{K:Bool→WP},Rds B As (RRows t ps)→Ent B As (K true)→Ent B As (XCall Pr F_law26_HistoryFiles [.agg #[t.v,.int .i64 to,.slice none 0 0],.int .i64 x,.int .i64 y] .one [.bool] K):=by
    intro As t ps to x y K hr hK
    refine xcall0 (files_rr t ps to ⟨none,0,0⟩ [] x y) (rds_and (rds_and hr rdb) rdb) ?_
    rintro ⟨c,_⟩ _ ⟨hc,rfl⟩
    obtain rfl:c=true:=hc
    exact app0 (ca1 hK)
  have exactT:∀ {As:List HP}{t:Sl}{ps:List (List UInt8)}{to x y:Int}{K:Bool→WP},Rds B As (RRows t ps)→Ent B As (K true)→Ent B As (XCall Pr F_law26_HistoryExact [.agg #[t.v,.int .i64 to,.slice none 0 0],.int .i64 x,.int .i64 y] .one [.bool] K):=by
    intro As t ps to x y K hr hK
    refine xcall0 (exact_rr t ps to ⟨none,0,0⟩ x y) (rds_and hr rdb) ?_
    rintro ⟨c,_⟩ _ ⟨hc,rfl⟩
    obtain rfl:c=true:=hc
    exact app0 (ca1 hK)
  refine xget (s:=.slice) (x:=⟨some ⟨b2,0,none⟩,4,4⟩) (h:=xget (h:=xget (s:=.slice) (x:=⟨none,0,0⟩) (h:=filesT (t:=⟨some ⟨b2,0,none⟩,4,4⟩) (ps:=[q1,q2,q3,q4]) rdb (xjoin (xift rfl ?_)))))
  refine xget (s:=.slice) (x:=⟨some ⟨b2,0,none⟩,4,4⟩) (h:=xget (h:=xget (s:=.slice) (x:=⟨none,0,0⟩) (h:=filesT (t:=⟨some ⟨b2,0,none⟩,4,4⟩) (ps:=[q1,q2,q3,q4]) rdb (xjoin (xift rfl ?_)))))
  refine xget (s:=.slice) (x:=⟨some ⟨b2,0,none⟩,4,4⟩) (h:=xget (h:=xget (s:=.slice) (x:=⟨none,0,0⟩) (h:=filesT (t:=⟨some ⟨b2,0,none⟩,4,4⟩) (ps:=[q1,q2,q3,q4]) rdb (xjoin (xift rfl ?_)))))
  refine xget (s:=.slice) (x:=⟨some ⟨b4,0,none⟩,3,3⟩) (h:=xget (h:=xget (s:=.slice) (x:=⟨none,0,0⟩) (h:=filesT (t:=⟨some ⟨b4,0,none⟩,3,3⟩) (ps:=[p1,p2,p3]) rdb (xjoin (xift rfl ?_)))))
  refine xget (s:=.slice) (x:=⟨some ⟨b2,0,none⟩,4,4⟩) (h:=xget (h:=xget (s:=.slice) (x:=⟨none,0,0⟩) (h:=exactT (t:=⟨some ⟨b2,0,none⟩,4,4⟩) (ps:=[q1,q2,q3,q4]) rdb (xjoin (xift rfl ?_)))))
  refine xget (s:=.slice) (x:=⟨some ⟨b4,0,none⟩,3,3⟩) (h:=xget (h:=xget (s:=.slice) (x:=⟨none,0,0⟩) (h:=exactT (t:=⟨some ⟨b4,0,none⟩,3,3⟩) (ps:=[p1,p2,p3]) rdb ?_)))
  exact xkeep (l:=[]) (xret ⟨rfl,rfl⟩)
end Go.Cx
namespace Go.Cx
open Go Go.Cf
set_option linter.unusedVariables false
set_option maxRecDepth 100000
variable {B:Base}{As F:List HP}{α:Type}
theorem hknown_spec:Ct Pr F_law26_HistoryKnown [] .one [.bool] [] GTab tru:=by
  refine spec1 c_law26_HistoryKnown fun B hg=>?_
  haveI:FroP B GTab:=⟨hg,fun _ _ h s=>GTab.mono _ _ h s⟩
  unfold law26_HistoryKnown
  refine xnew fun b=>?_
  refine xfold1 0 (Q:=Ar I64 ⟨some ⟨b,0,none⟩,15,15⟩ ns15) (fun g hg=>⟨[],blk_ar ns15 15 rfl rfl hg⟩) ?_
  refine xcall0 three_spec rdb ?_
  rintro ⟨s,r,s1,_⟩ _ ⟨hr,hs1,x1,x2,x3,rfl⟩
  simp only at hr hs1;subst hr hs1
  refine app4 (ca3 (xnew fun b1=>?_))
  simp only
  iterate 3 (refine xset (h:=?_))
  generalize (putE (smp 5)).1=p1
  generalize (putE (smp 3)).1=p2
  refine xdraw ?_
  refine xjoin0 (fun As'=>∃ (s4:Sl) (ps:List (List UInt8)),As'=[ORows s4 ps,Blk b1 [s4.v,.int .i64 0,(⟨none,0,0⟩:Sl).v],Ar I64 ⟨some ⟨b,0,none⟩,15,15⟩ ns15]) (fun K hK=>?_) ?_
  · refine xget (h:=xand ?_ ?_)
    · refine xnew fun b2=>?_
      refine xfold1 0 (Q:=Ar U8 ⟨some ⟨b2,0,none⟩,1,1⟩ [7]) (fun g hg=>⟨[],blk_ar [7] 1 rfl rfl hg⟩) ?_
      refine xcall0 (sample26_spec _) rdb ?_
      rintro ⟨y,_⟩ _ rfl
      refine app1 (ca1 (xchk (h:=xnew fun b3=>?_)))
      simp only
      generalize (putE (smp 1099511627776)).1=p3
      refine xfold1 0 (Q:=Ar SL ⟨some ⟨b3,0,none⟩,2,2⟩ [⟨some ⟨b2,0,none⟩,1,1⟩,y]) (fun g hg=>⟨[],blk_ar [⟨some ⟨b2,0,none⟩,1,1⟩,y] 2 rfl rfl hg⟩) ?_
      refine xapp (E:=SL) (s:=s) (y:=⟨some ⟨b3,0,none⟩,2,2⟩) (xs:=[x1,x2,x3]) (ys:=[⟨some ⟨b2,0,none⟩,1,1⟩,y]) (hb:=by simp) (h:=fun s4=>?_)
      refine xset (h:=?_)
      refine orows_of (s:=s4) (rs:=[x1,x2,x3]++[⟨some ⟨b2,0,none⟩,1,1⟩,y]) (ps:=[p1,p2,p1,[7],p3]) (l:=[Ar U8 x1 p1,Ar U8 x2 p2,Ar U8 x3 p1,Ar U8 ⟨some ⟨b2,0,none⟩,1,1⟩ [7],Ar U8 y p3]) (fun g hg=>each_take (fun _ h=>h) (fun g hg=>each_take (fun _ h=>h) (fun g hg=>each_take (fun _ h=>h) (fun g hg=>each_take (fun _ h=>h) (fun g hg=>each1 hg) hg) hg) hg) hg) ?_
      exact xuse' (hK _ ⟨s4,[p1,p2,p1,[7],p3],rfl⟩)
    · refine xcall0 (sample26_spec _) rdb ?_
      rintro ⟨y,_⟩ _ rfl
      refine app1 (ca1 (xchk (h:=xnew fun b2=>?_)))
      simp only
      generalize (putE (smp 1099511627776)).1=p3
      refine xfold1 0 (Q:=Ar U8 ⟨some ⟨b2,0,none⟩,1,1⟩ [7]) (fun g hg=>⟨[],blk_ar [7] 1 rfl rfl hg⟩) ?_
      refine xnew fun b3=>?_
      refine xfold1 0 (Q:=Ar SL ⟨some ⟨b3,0,none⟩,2,2⟩ [⟨some ⟨b2,0,none⟩,1,1⟩,y]) (fun g hg=>⟨[],blk_ar [⟨some ⟨b2,0,none⟩,1,1⟩,y] 2 rfl rfl hg⟩) ?_
      refine xapp (E:=SL) (s:=s) (y:=⟨some ⟨b3,0,none⟩,2,2⟩) (xs:=[x1,x2,x3]) (ys:=[⟨some ⟨b2,0,none⟩,1,1⟩,y]) (hb:=by simp) (h:=fun s4=>?_)
      refine xset (h:=?_)
      refine orows_of (s:=s4) (rs:=[x1,x2,x3]++[⟨some ⟨b2,0,none⟩,1,1⟩,y]) (ps:=[p1,p2,p1,[7],p3]) (l:=[Ar U8 x1 p1,Ar U8 x2 p2,Ar U8 x3 p1,Ar U8 ⟨some ⟨b2,0,none⟩,1,1⟩ [7],Ar U8 y p3]) (fun g hg=>each_take (fun _ h=>h) (fun g hg=>each_take (fun _ h=>h) (fun g hg=>each_take (fun _ h=>h) (fun g hg=>each_take (fun _ h=>h) (fun g hg=>each1 hg) hg) hg) hg) hg) ?_
      exact xuse' (hK _ ⟨s4,[p1,p2,p1,[7],p3],rfl⟩)
  rintro _ ⟨s4,ps,rfl⟩
  refine xnew fun b6=>?_
  refine xfold1 0 (Q:=Ar KE ⟨some ⟨b6,0,none⟩,2,2⟩ ks5) (fun g hg=>⟨[],blk_ar ks5 2 rfl rfl hg⟩) ?_
  refine xset (h:=?_)
  have files:∀ {As:List HP}{x y:Int}{K:Bool→WP},Rds B As (RRows s4 ps)→Rds B As (RAr KE ⟨some ⟨b6,0,none⟩,2,2⟩ ks5)→Ent B As (K true)→Ent B As (XCall Pr F_law26_HistoryFiles [.agg #[s4.v,.int .i64 0,(⟨some ⟨b6,0,none⟩,2,2⟩:Sl).v],.int .i64 x,.int .i64 y] .one [.bool] K):=by
    intro As x y K hr hk hK
    refine xcall0 (files_rr s4 ps 0 ⟨some ⟨b6,0,none⟩,2,2⟩ ks5 x y) (rds_and (rds_and hr hk) rdb) ?_
    rintro ⟨c,_⟩ _ ⟨hc,rfl⟩
    obtain rfl:c=true:=hc
    exact app0 (ca1 hK)
  have does:∀ {As:List HP}{x a0 a1 a2:Int}{a5:Sl}{K:Bool→WP}(pp:List P3),Rds B As (RRows s4 ps)→Rds B As (RAr KE ⟨some ⟨b6,0,none⟩,2,2⟩ ks5)→Rds B As (RAr PaE a5 pp)→Ent B As (K true)→Ent B As (XCall Pr F_law26_HistoryDoes [.agg #[s4.v,.int .i64 0,(⟨some ⟨b6,0,none⟩,2,2⟩:Sl).v],.int .i64 x,.agg #[.int .i64 a0,.int .i64 a1,.int .i64 a2,.slice none 0 0,.slice none 0 0,a5.v]] .one [.bool] K):=by
    intro As x a0 a1 a2 a5 K pp hr hk hp hK
    refine xcall0 (does_rr s4 ps 0 ⟨some ⟨b6,0,none⟩,2,2⟩ ks5 x a0 a1 a2 a5 pp) (rds_and (rds_and (rds_and hr hk) rdb) hp) ?_
    rintro ⟨c,_⟩ _ ⟨hc,rfl⟩
    obtain rfl:c=true:=hc
    exact app0 (ca1 hK)
  have words:∀ {As:List HP}{seq:Int}{r:RE}{K:Bool→WP},Ent B As (K true)→Ent B As (XCall Pr F_law26_HistoryWords [.int .i64 seq,r.v] .one [.bool] K):=by
    intro As seq r K hK
    refine xcall0 (hwords_law seq r) rdb ?_
    rintro ⟨c,_⟩ _ ⟨hc,rfl⟩
    obtain rfl:c=true:=hc
    exact app0 (ca1 hK)
  have g3:∀ {As:List HP}{F:List HP}{a:Sl}{K:Sl→Int→Sl→WP},Ent B (Ar KE ⟨some ⟨b6,0,none⟩,2,2⟩ ks5::ORows s4 ps::Blk b1 [s4.v,.int .i64 0,(⟨some ⟨b6,0,none⟩,2,2⟩:Sl).v]::F) (K s4 0 ⟨some ⟨b6,0,none⟩,2,2⟩)→Ent B (Ar KE ⟨some ⟨b6,0,none⟩,2,2⟩ ks5::ORows s4 ps::Blk b1 [s4.v,.int .i64 0,(⟨some ⟨b6,0,none⟩,2,2⟩:Sl).v]::F) (XGet .slice ⟨b1,0,none⟩ fun s7=>XGet (.int .i64) ⟨b1,1,none⟩ fun(n:Int)=>XGet .slice ⟨b1,2,none⟩ fun s8=>K s7 n s8):=fun h=>xget (h:=xget (h:=xget (h:=h)))
  refine xuse [Ar KE ⟨some ⟨b6,0,none⟩,2,2⟩ ks5,ORows s4 ps,Blk b1 [s4.v,.int .i64 0,(⟨some ⟨b6,0,none⟩,2,2⟩:Sl).v],Ar I64 ⟨some ⟨b,0,none⟩,15,15⟩ ns15] ?_
  refine xloop1 (fun n (x:Int) As'=>∃ k:Nat,x=(k:Int)∧n=15 - k∧k≤15∧As'=[Ar KE ⟨some ⟨b6,0,none⟩,2,2⟩ ks5,ORows s4 ps,Blk b1 [s4.v,.int .i64 0,(⟨some ⟨b6,0,none⟩,2,2⟩:Sl).v],Ar I64 ⟨some ⟨b,0,none⟩,15,15⟩ ns15]) 15 ⟨0,rfl,rfl,by omega,rfl⟩ ?_
  rintro n _ _ K ⟨i,rfl,rfl,hi,rfl⟩ hK
  refine xif_dec (fun h=>?_) (fun h=>?_)
  · have hi15:i<15:=by omega
    obtain ⟨y,hy⟩:∃ y,ns15[i]? = some y:=⟨_,List.getElem?_eq_getElem (by simp;omega)⟩
    refine xloop1 (fun n (x:Int) As'=>∃ k:Nat,x=(k:Int)∧n=15 - k∧k≤15∧As'=[Ar KE ⟨some ⟨b6,0,none⟩,2,2⟩ ks5,ORows s4 ps,Blk b1 [s4.v,.int .i64 0,(⟨some ⟨b6,0,none⟩,2,2⟩:Sl).v],Ar I64 ⟨some ⟨b,0,none⟩,15,15⟩ ns15]) 15 ⟨0,rfl,rfl,by omega,rfl⟩ ?_
    rintro n _ _ K2 ⟨k,rfl,rfl,hk,rfl⟩ hK2
    refine xif_dec (fun h2=>?_) (fun h2=>?_)
    · have hk15:k<15:=by omega
      obtain ⟨z,hz⟩:∃ z,ns15[k]? = some z:=⟨_,List.getElem?_eq_getElem (by simp;omega)⟩
      have gi:∀ {As:List HP}{K:Int→WP} [RdA B As ⟨some ⟨b,0,none⟩,15,15⟩ I64 ns15],Ent B As (K y)→Ent B As (XIdx (some ⟨b,0,none⟩) 15 (i:Int) 1 fun a=>XGet (.int .i64) a K):=by
        intro As K _ hK
        exact xidxn (E:=I64) (xs:=ns15) (s:=⟨some ⟨b,0,none⟩,15,15⟩) (h1:=by simp;omega) (h:=fun _ _=>xgetE (E:=I64) (xs:=ns15) (s:=⟨some ⟨b,0,none⟩,15,15⟩) hy (h:=hK))
      have gk:∀ {As:List HP}{K:Int→WP} [RdA B As ⟨some ⟨b,0,none⟩,15,15⟩ I64 ns15],Ent B As (K z)→Ent B As (XIdx (some ⟨b,0,none⟩) 15 (k:Int) 1 fun a=>XGet (.int .i64) a K):=by
        intro As K _ hK
        exact xidxn (E:=I64) (xs:=ns15) (s:=⟨some ⟨b,0,none⟩,15,15⟩) (h1:=by simp;omega) (h:=fun _ _=>xgetE (E:=I64) (xs:=ns15) (s:=⟨some ⟨b,0,none⟩,15,15⟩) hz (h:=hK))
      refine xdraw (xjoin ?_)
      refine xget (h:=xget (h:=xget (h:=gi (gk ?_))))
      refine files rdb rdb (xiff rfl ?_)
      refine xget (h:=xget (h:=xget (h:=gi (gk (xnew fun b8=>?_)))))
      refine xfold1 0 (Q:=Ar PaE ⟨some ⟨b8,0,none⟩,1,1⟩ [(2,y,z)]) (fun g hg=>⟨[],blk_ar [(2,y,z)] 1 rfl rfl hg⟩) ?_
      refine does (a5:=⟨some ⟨b8,0,none⟩,1,1⟩) [(2,y,z)] rdb rdb rdb (xiff rfl ?_)
      refine xget (h:=xget (h:=xget (h:=gi (gk (xnew fun b9=>?_)))))
      refine xfold1 0 (Q:=Ar PaE ⟨some ⟨b9,0,none⟩,2,2⟩ [(1,0,4),(z,0,1)]) (fun g hg=>⟨[],blk_ar [(1,0,4),(z,0,1)] 2 rfl rfl hg⟩) ?_
      refine does (a5:=⟨some ⟨b9,0,none⟩,2,2⟩) [(1,0,4),(z,0,1)] rdb rdb rdb (xiff rfl ?_)
      rw [wrap_succ k (by omega)]
      exact xuse' (hK2 (15 - (k+1)) _ _ (by omega) ⟨k+1,rfl,rfl,by omega,rfl⟩)
    have gi:∀ {As:List HP}{K:Int→WP} [RdA B As ⟨some ⟨b,0,none⟩,15,15⟩ I64 ns15],Ent B As (K y)→Ent B As (XIdx (some ⟨b,0,none⟩) 15 (i:Int) 1 fun a=>XGet (.int .i64) a K):=by
      intro As K _ hK
      exact xidxn (E:=I64) (xs:=ns15) (s:=⟨some ⟨b,0,none⟩,15,15⟩) (h1:=by simp;omega) (h:=fun _ _=>xgetE (E:=I64) (xs:=ns15) (s:=⟨some ⟨b,0,none⟩,15,15⟩) hy (h:=hK))
    haveI:Fro B ⟨none,0,0⟩ PaE []:=⟨nil_rd rfl⟩
    refine xdraw (xjoin (gi ?_))
    refine words (r:=⟨4,1,ByteArray.empty,3,0⟩) (xiff rfl (gi ?_))
    refine words (r:=⟨1,y,_,-1,0⟩) (xiff rfl (gi ?_))
    refine words (r:=⟨6,0,ByteArray.empty,9,y⟩) (xiff rfl ?_)
    refine xget (h:=xget (h:=xget (h:=gi ?_)))
    refine does (a5:=⟨none,0,0⟩) [] rdb rdb rdb (xiff rfl ?_)
    rw [wrap_succ i (by omega)]
    exact hK (15 - (i+1)) _ _ (by omega) ⟨i+1,rfl,rfl,by omega,rfl⟩
  refine xcall0 full_spec rdb ?_
  rintro ⟨c,_⟩ _ ⟨hc,rfl⟩
  obtain rfl:c=true:=hc
  refine app0 (ca1 (xjoin (xift rfl ?_)))
  refine xcall0 works26_spec rdb ?_
  rintro ⟨c,_⟩ _ ⟨hc,rfl⟩
  obtain rfl:c=true:=hc
  exact app0 (ca1 (xkeep (l:=[]) (xret ⟨rfl,rfl⟩)))
end Go.Cx
namespace Go.Cx
open Go Go.Cf
set_option linter.unusedVariables false
set_option maxRecDepth 100000
variable {B:Base}{As F:List HP}{α:Type}
section
open Go.RowKit Go.ChangeShapes Go.WideShapes Go.Deep
section
variable {α:Type}{H:Type}{enc:TypeId×Value→H}{P:Program}{w:World}{base:Nat}{held:Bool}
theorem opens_int {t:TypeId}(ht:P.underlying t=some (.int .i64)):Opens enc P w base held t I64 (fun a b=>a=b):=by
  intro fuel cs x hx
  obtain ⟨a,b,h1,h2,_⟩:=opens_i64 ht fuel cs x hx
  exact ⟨a,b,h1,h2⟩
theorem c3:Pr.cellsOf 3=1:=by kernel_rfl
theorem int1 {fuel:Nat}{v:Value}{x:DataW H×List MemPlace}(h:DataW.trod enc Pr w base (fun _=>true) held fuel 3 [v]=some x):∃ a:Int,v=.int .i64 a:=by
  obtain ⟨a,_,h1,rfl⟩:=opens_int (P:=Pr) (t:=3) (by kernel_rfl) _ _ _ h
  exact ⟨a,by simpa [I64] using h1⟩
theorem c32:Pr.cellsOf 32=1:=by kernel_rfl
theorem c33:Pr.cellsOf 33=1:=by kernel_rfl
theorem slice1 {fuel:Nat}{t e:TypeId}{v:Value}{x:DataW H×List MemPlace}(ht:Pr.underlying t=some (.slice e)) (h:DataW.trod enc Pr w base (fun _=>true) held fuel t [v]=some x):∃ s:Sl,v=s.v:=by
  rcases DataW.trod_slice ht h with ⟨h1,_⟩ | ⟨a,n,c,_,_,_,_,h1,_⟩
  · exact ⟨⟨none,0,0⟩,by simpa using h1⟩
  · exact ⟨⟨some a,n,c⟩,by simpa using h1⟩
theorem opens_key:Opens enc Pr w base held 55 KE (fun a b=>a=b):=by
  intro fuel cs x hx
  obtain ⟨xs,n,_,_,hlen,hxs,hf⟩:=DataW.trod_struct Go.Proofs.Tryz.underlying55 hx
  have ce:Pr.cellsOf 55=2:=by kernel_rfl
  rw [ce] at hlen
  match xs,hxs,cs,hlen with
  | [y0,y1],_,[v0,v1],_=>
    have g0:=hf 0 _ rfl
    have g1:=hf 1 _ rfl
    simp [c3] at g0 g1
    obtain ⟨a0,rfl⟩:=int1 g0
    obtain ⟨a1,rfl⟩:=int1 g1
    exact ⟨(a0,a1),(a0,a1),rfl,rfl⟩
theorem store2 {fuel:Nat}{cs:List Value}{x:DataW H×List MemPlace}(h:DataW.trod enc Pr w base (fun _=>true) held fuel 35 cs=some x):∃ (s0 s2:Sl) (to:Int) (rows:List (List UInt8)) (ys:List KY),cs=[s0.v,.int .i64 to,s2.v]∧RRows s0 rows (mem w)∧RAr KE s2 ys (mem w):=by
  obtain ⟨xs,n,_,_,hlen,hxs,hf⟩:=DataW.trod_struct Go.Proofs.Tryz.underlying35 h
  have ce:Pr.cellsOf 35=3:=by kernel_rfl
  rw [ce] at hlen
  match xs,hxs,cs,hlen with
  | [y0,y1,y2],_,[v0,v1,v2],_=>
    have g0:=hf 0 _ rfl
    have g1:=hf 1 _ rfl
    have g2:=hf 2 _ rfl
    simp [c3,c32,c33] at g0 g1 g2
    obtain ⟨s0,rfl⟩:=slice1 (e:=78) (by kernel_rfl) g0
    obtain ⟨a1,rfl⟩:=int1 g1
    obtain ⟨s2,bs,h1,h2,us,h3,h4,h5⟩:=opens_slice (E:=KE) (t:=33) (e:=55) (by kernel_rfl) (by kernel_rfl) opens_key _ _ _ g2
    obtain rfl:v2=s2.v:=by simpa [SL] using h1
    obtain ⟨rows,hr⟩:=rows_of_trod (s:=s0) (e:=78) (q:=5) (by kernel_rfl) (by kernel_rfl) (by kernel_rfl) (by kernel_rfl) (by kernel_rfl) g0
    exact ⟨s0,s2,a1,rows,us,rfl,hr,h3⟩
end
theorem tabType:(Pr.globals[0]?).map (·.type)=some 259:=by kernel_rfl
theorem cU:Pr.cellsOf 113=1:=by kernel_rfl
theorem cA:Pr.cellsOf 259=20:=by kernel_rfl
theorem GTab_of {W:World}(h:Lib.TabIs Pr W "internal/strconv.uint64pow10" .u64 Lib.pow10Tab):GTab (mem W):=by
  unfold Lib.TabIs World.var? at h
  rw [globTab] at h
  simp only [Option.bind_some] at h
  show ∃ e fr,W.heap[_]? = some _
  split at h
  · rename_i cs e fr hh
    obtain rfl:=Option.some.inj h
    exact ⟨e,fr,hh⟩
  · cases h
theorem GTab_of_laid {W:World}{a b:String×DataW Unit}{rest:List (String×DataW Unit)}(h:laidMet Pr (a::b::("internal/strconv.uint64pow10",Lib.tabData .u64 Lib.pow10Tab)::rest) W):GTab (mem W):=by
  obtain ⟨ps,hv,_⟩:=h
  obtain ⟨n1,d1⟩:=a
  obtain ⟨n2,d2⟩:=b
  obtain ⟨g1,t1,cs1,fu1,p1,q1,hg1,ht1,hvar1,hd1,hv2,_⟩:=hv
  obtain ⟨g2,t2,cs2,fu2,p2,q2,hg2,ht2,hvar2,hd2,hv3,_⟩:=hv2
  obtain ⟨g3,t3,cs3,fu3,p3,q3,hg3,ht3,hvar3,hd3,_,_⟩:=hv3
  obtain rfl:=Option.some.inj (globTab.symm.trans hg3)
  obtain rfl:=Option.some.inj (tabType.symm.trans ht3)
  refine GTab_of ?_
  unfold Lib.TabIs
  rw [hvar3]
  have:=Lib.cells_of_tab (by kernel_rfl:Pr.underlying 259=some (.array 20 113)) (by kernel_rfl:Pr.underlying 113=some (.int .u64)) cU cA hd3
  rw [←this]
end
end Go.Cx
