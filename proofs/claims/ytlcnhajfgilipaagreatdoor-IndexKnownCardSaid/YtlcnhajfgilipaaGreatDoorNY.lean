/-
  The index: Add with its code, how many, Open on any device.
  The index: pruned; its file's bytes; saved.
  The index's file: its bytes, the program's and the document's.
  The document's file of the index; Save of both.
  The document's record put into bytes: as many as may be.
  How many numbers a log on a device of a small room has; a log's files beside another's.
  A log and an index on one device: what every call keeps.
-/
import Derived.Test.YtlcnhajfgilipaaGreatDoorMX1
import Derived.Test.YtlcnhajfgilipaaGreatDoorT1
import Derived.Test.YtlcnhajfgilipaaGreatDoorHY
import Derived.Test.YtlcnhajfgilipaaGreatDoorLKX
namespace Go.Cx
open Go Go.Cf
set_option linter.unusedVariables false
set_option maxRecDepth 100000
variable {B:Base}{As F:List HP}{α:Type}
def addC (X:XM) (k:KY):Int:=if k.1<0∨k.1>1099511627776∨k.2<0∨k.2>1099511627776 then 3 else if k.2≤X.last then 29 else 0
theorem iAddc_spec (x d l:Option Addr) (X:XM) (k:KY) (hL:X.L.length≤4000000000000000):Ct Pr F_index_Index_Add [.pointer x,.int .i64 k.1,.int .i64 k.2] .one [.int .i64] [IdxObj x d l X] emp (fun t Bs=>t.1=addC X k∧Bs=[IdxObj x d l (addX X k)]):=by
  refine spec1 c_index_Index_Add fun B _=>?_
  unfold index_Index_Add
  refine xif (fun h=>?_) (fun h=>?_)
  · have hc:k.1<0∨k.1>1099511627776∨k.2<0∨k.2>1099511627776:=by simp at h;omega
    have e:addX X k=X:=by unfold addX;rw [if_pos hc]
    have e2:addC X k=3:=by unfold addC;rw [if_pos hc]
    rw [e,e2];exact xret ⟨rfl,rfl⟩
  have h':¬ (k.1<0∨k.1>1099511627776∨k.2<0∨k.2>1099511627776):=by simp at h;omega
  refine xindex 0 fun b q hx=>?_
  subst hx
  refine xnil (xget (h:=?_))
  refine xindex_back b q d l X ?_
  refine xif_dec (fun h2=>?_) (fun h2=>?_)
  · have e:addX X k=X:=by unfold addX;rw [if_neg h',if_pos h2]
    have e2:addC X k=29:=by unfold addC;rw [if_neg h',if_pos h2]
    rw [e,e2];exact xret ⟨rfl,rfl⟩
  · have e:addX X k=putX X k.1 k.2:=by unfold addX;rw [if_neg h',if_neg h2]
    refine xcl (putX_spec (some ⟨b,0,none⟩) d l X k.1 k.2 hL) rdb ?_
    rintro _ _ rfl
    have e2:addC X k=0:=by unfold addC;rw [if_neg h',if_neg h2]
    rw [e,e2]
    exact app1 (ca0 (xret ⟨rfl,rfl⟩))
theorem rAdd16c_spec (x d l:Option Addr) (m:XM) (k:KY) (hl:m.L.length≤999999):Ct Pr F_ref16_Index_Add [.pointer x,.int .i64 k.1,.int .i64 k.2] .one [.int .i64] [RIdxObj x d l m] emp
    (fun t Bs=>t.1=addC m k∧Bs=[RIdxObj x d l (addX m k)]):=by
  refine spec1 c_ref16_Index_Add fun B _=>?_
  unfold ref16_Index_Add
  have hcond:((((decide (k.1<0))||(decide (k.1>1099511627776)))||(decide (k.2<0)))||(decide (k.2>1099511627776)))=decide (k.1<0∨k.1>1099511627776∨k.2<0∨k.2>1099511627776):=by
    rw [Bool.eq_iff_iff]
    simp only [Bool.or_eq_true,decide_eq_true_eq];omega
  rw [hcond]
  refine xif_dec (fun h=>?_) (fun h=>?_)
  · have e:addX m k=m:=by unfold addX;rw [if_pos h]
    have e2:addC m k=3:=by unfold addC;rw [if_pos h]
    rw [e,e2];exact xret ⟨rfl,rfl⟩
  have e:addX m k=if k.2≤m.last then m else putX m k.1 k.2:=by unfold addX;rw [if_neg h]
  have e2:addC m k=if k.2≤m.last then 29 else 0:=by unfold addC;rw [if_neg h]
  rw [e,e2]
  refine xridx 0 fun hi b s hx=>?_
  subst hx
  refine xlen (E:=KE) (xs:=m.L) s fun hsn _=>?_
  have hlen:=hi.len
  refine xloop1 (fun n (z:Int) As'=>∃ i:Nat,z=(i:Int)∧n=m.L.length - i∧i≤m.L.length∧(∀ y∈m.L.take i,y.2<k.2)∧As'=[Blk b [.pointer d,.pointer l,s.v],Ar KE s m.L]) m.L.length ⟨0,rfl,rfl,by omega,by simp,rfl⟩ ?_
  rintro n _ _ K ⟨i,rfl,rfl,hi',hno,rfl⟩ hK
  refine xnil (xget (h:=xif_dec (fun hlt=>?_) (fun hlt=>?_)))
  · have hil:i<m.L.length:=by omega
    obtain ⟨y,hy⟩:∃ y,m.L[i]? = some y:=⟨_,List.getElem?_eq_getElem hil⟩
    have hym:=hi.top y (List.mem_of_getElem? hy)
    refine xnil (xget (h:=?_))
    refine xidxn (E:=KE) (xs:=m.L) (s:=s) (h1:=hil) (h:=fun _ _=>?_)
    refine xgetEj (E:=KE) (xs:=m.L) hy (h:=xif_dec (fun h2=>?_) (fun h2=>?_))
    · rw [if_pos (by omega),if_pos (by omega)]
      refine xridx_back (d:=d) (l:=l) (m:=m) b s hi ?_
      exact xuse [RIdxObj (some ⟨b,0,none⟩) d l m] (xret ⟨rfl,rfl⟩)
    · rw [wrap_succ i (by omega)]
      refine hK _ _ _ (by omega) ⟨i+1,rfl,rfl,by omega,fun z hz=>?_,rfl⟩
      rw [List.take_add_one,hy] at hz
      rcases List.mem_append.1 hz with hz | hz
      · exact hno z hz
      · obtain rfl:z=y:=by simpa using hz
        omega
  · rw [List.take_of_length_le (by omega)] at hno
    have hlt2:m.last<k.2:=by
      rcases hi.last with ⟨_,h1⟩ | ⟨y,h1,h2⟩
      · omega
      · have:=hno y h1;omega
    rw [if_neg (by omega),if_neg (by omega)]
    refine xridx_back (d:=d) (l:=l) (m:=m) b s hi ?_
    refine xcl (rPut16_spec (some ⟨b,0,none⟩) d l m k.1 k.2 (by omega) hlt2 hl) rdb ?_
    rintro _ _ rfl
    exact app1 (ca0 (xuse [RIdxObj (some ⟨b,0,none⟩) d l (putX m k.1 k.2)] (xret ⟨rfl,rfl⟩)))
theorem iLen_spec (x d l:Option Addr) (X:XM):Ct Pr F_index_Index_Len [.pointer x] .one [.int .i64] [IdxObj x d l X] emp (fun t Bs=>t.1=(X.L.length:Int)∧Bs=[IdxObj x d l X]):=by
  refine spec1 c_index_Index_Len fun B _=>?_
  unfold index_Index_Len
  refine xindex 0 fun b q hx=>?_
  subst hx
  refine xnil (xget (h:=?_))
  refine xcl (Len_tree q X.L) rdb ?_
  rintro ⟨t,_⟩ _ ⟨ht,rfl⟩
  simp only at ht;subst ht
  exact app1 (ca1 (xindex_back b q d l X (xret ⟨rfl,rfl⟩)))
theorem rOpen16g_spec (d l:Option Addr) (m:DM) (lm:LM) (hT:m.down=false→lm.next - lm.lo≤100000):Ct Pr F_ref16_Open [.pointer d,.pointer l] (.tup [none,none]) [.ptr,.int .i64] [RefDev d m,RLogObj l d lm] emp
    (fun t Bs=>t.2.1=(dropM m idxNew).2∧((dropM m idxNew).2≠0→t.1=none∧Bs=[RefDev d (dropM m idxNew).1,RLogObj l d lm])∧((dropM m idxNew).2=0→∃ b,t.1=some ⟨b,0,none⟩∧Bs=[RefDev d (dropM m idxNew).1,RLogObj l d lm,RIdxObj (some ⟨b,0,none⟩) d l (openX lm)])):=by
  refine spec2 c_ref16_Open fun B _=>?_
  unfold ref16_Open
  refine xfact 1 (P1:=RLogObj l d lm) (fun g hg=>hg.1) fun hi=>?_
  have hnx:=hi.next
  have hlo:=hi.lo
  refine xroff (xif (fun hd=>?_) (fun hd=>?_))
  · have hr:removeM m idxNew=(m,10):=by unfold removeM;exact on_down hd _ _
    have hdr:dropM m idxNew=(m,10):=by unfold dropM;rw [hr];rfl
    rw [hdr]
    exact xret ⟨rfl,fun _=>⟨rfl,rfl⟩,fun e=>by cases e⟩
  have hT:=hT hd
  refine xcl (rFind_spec d m _) rdb ?_
  rintro ⟨t,_⟩ _ ⟨ht,rfl⟩
  simp only at ht;subst ht
  refine app1 (ca1 ?_)
  refine xjoin1 (fun(c:Bool) As'=>(c=true↔(dropM m idxNew).2≠0)∧As'=[RefDev d (dropM m idxNew).1,RLogObj l d lm]) (fun K1 hK1=>?_) ?_
  · cases ht:thereL m.fs idxNew.toList with
    | true=>
      refine xift (by rw [fIdx_yes ht];simp) ?_
      refine xcl (rRemove_spec d m _) rdb ?_
      rintro ⟨t,_⟩ _ ⟨ht2,rfl⟩
      simp only at ht2;subst ht2
      rw [drop_there hd ht] at hK1
      exact app1 (ca1 (hK1 _ _ ⟨by simp,rfl⟩))
    | false=>
      refine xiff (by rw [fIdx_no ht];rfl) ?_
      rw [drop_none hd ht] at hK1
      exact hK1 _ _ ⟨by simp,rfl⟩
  rintro c _ ⟨hc,rfl⟩
  refine xif (fun h=>?_) (fun h=>?_)
  · have h:=hc.1 h
    refine xret ⟨(drop_code h).symm,fun _=>⟨rfl,rfl⟩,fun e=>absurd e h⟩
  have h0:(dropM m idxNew).2=0:=by
    by_cases e:(dropM m idxNew).2=0
    · exact e
    · rw [hc.2 e] at h;cases h
  refine xnew fun b=>?_
  refine xnone KE ?_
  refine xfold [Blk b [.pointer d,.pointer l,.slice none 0 0],Ar KE ⟨none,0,0⟩ []] (RIdxObj (some ⟨b,0,none⟩) d l xm0) (fun g hg=>⟨rinv0,b,⟨none,0,0⟩,rfl,hg⟩) ?_
  refine xuse [RLogObj l d lm,RefDev d (dropM m idxNew).1,RIdxObj (some ⟨b,0,none⟩) d l xm0] ?_
  refine xrlo ?_
  refine xloop1 (fun n (x:Int) As'=>∃ k:Nat,x=lm.lo+k∧n=(lm.next - lm.lo).toNat - k∧k≤(lm.next - lm.lo).toNat∧As'=[RLogObj l d lm,RefDev d (dropM m idxNew).1,RIdxObj (some ⟨b,0,none⟩) d l (openTo lm k)]) (lm.next - lm.lo).toNat ⟨0,by simp,rfl,by omega,rfl⟩ ?_
  rintro n x As' K ⟨k,rfl,rfl,hk,rfl⟩ hK
  refine xcl (rNext14_spec l d lm) rdb ?_
  rintro ⟨t,_⟩ _ ⟨ht,rfl⟩
  simp only at ht;subst ht
  refine app1 (ca1 (xif_dec (fun h1=>?_) (fun h1=>?_)))
  · refine xcl (rGet14_spec l d lm (lm.lo+k)) rdb ?_
    rintro ⟨s,e,_⟩ _ ⟨_,rfl⟩
    obtain ⟨o1,o2⟩:=openTo_rinv lm hlo.1 k (by omega)
    have hlen:=openTo_len lm k
    refine app2 (ca2 (xfront 1 ?_))
    have fin:∀ {As2 G:List HP} [Split [RLogObj l d lm,RefDev d (dropM m idxNew).1,RIdxObj (some ⟨b,0,none⟩) d l (openTo lm (k+1))] As2 G],Ent B As2 (K (IntKind.i64.wrap (lm.lo+(k:Int)+1))):=by
      intro As2 G _
      rw [wrap_id _ (by omega) (by omega)]
      exact xuse [RLogObj l d lm,RefDev d (dropM m idxNew).1,RIdxObj (some ⟨b,0,none⟩) d l (openTo lm (k+1))] (hK ((lm.next - lm.lo).toNat - (k+1)) _ _ (by omega) ⟨k+1,by omega,rfl,by omega,rfl⟩)
    refine rxgot (by have:=getL_len hi (lm.lo+k);omega) (fun hz=>xnew fun b1=>?_) (fun hz a0 a1 a2 a3 a4 e he=>xnew fun b1=>?_)
    · iterate 5 (refine xset (h:=?_))
      have e0:openTo lm (k+1)=putX (openTo lm k) (getM (getL lm (lm.lo+k)).1).1.time (lm.lo+k):=by rw [openTo_succ];unfold stepX;rw [if_pos hz]
      refine xjoin (xift rfl (xget (h:=?_)))
      refine xcl (rPut16_spec (some ⟨b,0,none⟩) d l (openTo lm k) _ _ (by omega) o2 (by omega)) rdb ?_
      rintro _ _ rfl
      rw [←e0]
      exact app1 (ca0 fin)
    · iterate 5 (refine xset (h:=?_))
      have e0:openTo lm (k+1)=openTo lm k:=by rw [openTo_succ];unfold stepX;rw [if_neg hz]
      refine xjoin (xiff (by simpa using he) ?_)
      rw [←e0]
      exact fin
  · have e:k=(lm.next - lm.lo).toNat:=by omega
    have e2:openTo lm k=openX lm:=by rw [e];rfl
    rw [e2]
    exact xuse [RefDev d (dropM m idxNew).1,RLogObj l d lm,RIdxObj (some ⟨b,0,none⟩) d l (openX lm)] (xret ⟨h0.symm,fun e=>absurd h0 e,fun _=>⟨b,rfl,rfl⟩⟩)
end Go.Cx
namespace Go.Cx
open Go Go.Cf
set_option linter.unusedVariables false
set_option maxRecDepth 100000
variable {B:Base}{As F:List HP}{α:Type}
def GBeh:HP:=fun h=>∃ e fr,h 0=some (.cells #[.int .i64 1099511627777,.int .i64 0] e fr)
theorem GBeh.mono:∀ g f,GBeh g→Sub g f→GBeh f:=fun _ _ ⟨e,fr,h⟩ s=>⟨e,fr,s _ _ h⟩
theorem xbeh0 [f:FroP B GBeh] {K:Int→WP}(h:Ent B As (K 1099511627777)):Ent B As (XGet (.int .i64) ⟨0,0,none⟩ K):=by
  intro w hw
  obtain ⟨e,fr,hb⟩:=GBeh.mono _ _ f.now hw.frz
  have hb':w.heap[0]? = some (.cells #[.int .i64 1099511627777,.int .i64 0] e fr):=hb
  refine ⟨1099511627777,?_,h w hw⟩
  simp only [World.cell?,hb']
  rfl
theorem xbeh1 [f:FroP B GBeh] {K:Int→WP}(h:Ent B As (K 0)):Ent B As (XGet (.int .i64) ⟨0,1,none⟩ K):=by
  intro w hw
  obtain ⟨e,fr,hb⟩:=GBeh.mono _ _ f.now hw.frz
  have hb':w.heap[0]? = some (.cells #[.int .i64 1099511627777,.int .i64 0] e fr):=hb
  refine ⟨0,?_,h w hw⟩
  simp only [World.cell?,hb']
  rfl
def pruneF (lo:Int) (d:List KY):XM:=d.foldl (fun X k=>if k.2≥lo then putX X k.1 k.2 else X) xm0
abbrev pruneX (m:XM) (lo:Int):XM:=pruneF lo m.L
theorem pruneF_snoc (lo:Int) (d:List KY) (k:KY):pruneF lo (d++[k])=if k.2≥lo then putX (pruneF lo d) k.1 k.2 else pruneF lo d:=by unfold pruneF;rw [List.foldl_append];rfl
theorem snocInd {P:List KY→Prop}(h0:P []) (h1:∀ d k,P d→P (d++[k])) (d:List KY):P d:=by
  have h:∀ e:List KY,P e.reverse:=by
    intro e
    induction e with
    | nil=>exact h0
    | cons a e ih=>rw [List.reverse_cons];exact h1 _ _ ih
  have h:=h d.reverse
  rwa [List.reverse_reverse] at h
theorem ins_end {k:KY}{L:List KY}(h:∀ y∈L,ltK y k=true):insK k L=L++[k]:=by
  have hno:k∉L:=fun hm=>by have:=h k hm;rw [ltK_irr] at this;cases this
  unfold insK
  rw [if_neg hno,List.filter_eq_self.2 h]
  congr 1
  rw [List.filter_eq_nil_iff.2 fun y hy=>by rw [ltK_asym (h y hy)];decide]
theorem pruneF_len (lo:Int) (d:List KY):(pruneF lo d).L.length≤d.length:=by
  induction d using snocInd with
  | h0=>exact Nat.le_refl 0
  | h1 d k ih=>
    rw [pruneF_snoc,List.length_append,List.length_singleton]
    split
    · unfold putX
      simp only
      by_cases hm:(k.1,k.2)∈(pruneF lo d).L
      · rw [ins_mem hm];omega
      · rw [ins_len hm];omega
    · omega
theorem pruneF_spec (lo:Int):∀ (d:List KY),SrtK d→(∀ y∈d,0≤y.2)→(pruneF lo d).L=d.filter (fun k=>decide (k.2≥lo))∧(∀ y∈(pruneF lo d).L,y.2≤(pruneF lo d).last)∧(((pruneF lo d).L=[]∧(pruneF lo d).last = -1)∨∃ y∈(pruneF lo d).L,y.2=(pruneF lo d).last):=by
  intro d
  induction d using snocInd with
  | h0=>intro _ _;exact ⟨rfl,(fun y hy=>(by cases hy)),Or.inl ⟨rfl,rfl⟩⟩
  | h1 d k ih=>
    intro hs hz
    have hs':=List.pairwise_append.1 hs
    have hk0:=hz k (by simp)
    obtain ⟨h1,h2,h3⟩:=ih hs'.1 (fun y hy=>hz y (by simp [hy]))
    rw [pruneF_snoc,List.filter_append]
    by_cases hk:k.2≥lo
    · rw [if_pos hk,List.filter_cons_of_pos (by simpa using hk),List.filter_nil]
      have hend:insK (k.1,k.2) (pruneF lo d).L=(pruneF lo d).L++[k]:=ins_end fun y hy=>by
        rw [h1] at hy
        exact hs'.2.2 y (List.mem_filter.1 hy).1 k (by simp)
      unfold putX
      simp only
      rw [hend,←h1]
      refine ⟨rfl,fun y hy=>?_,.inr ?_⟩
      · rcases List.mem_append.1 hy with hy | hy
        · have:=h2 y hy;split<;>omega
        · obtain rfl:=List.mem_singleton.1 hy
          split<;>omega
      · by_cases hl:k.2>(pruneF lo d).last
        · exact ⟨k,by simp,by rw [if_pos hl]⟩
        · rw [if_neg hl]
          rcases h3 with ⟨e,e2⟩ | ⟨y,hy,hy2⟩
          · rw [e2] at hl
            exact ⟨k,by simp,by omega⟩
          · exact ⟨y,by simp [hy],hy2⟩
    · rw [if_neg hk,List.filter_cons_of_neg (by simpa using hk),List.filter_nil,List.append_nil]
      exact ⟨h1,h2,h3⟩
theorem prune_rinv {m:XM}(hi:RInv m) (lo:Int):RInv (pruneX m lo)∧(pruneX m lo).L=m.L.filter (fun k=>decide (k.2≥lo)):=by
  obtain ⟨h1,h2,h3⟩:=pruneF_spec lo m.L hi.srt (fun y hy=>(hi.top y hy).1)
  refine ⟨⟨by rw [h1];exact hi.srt.filter _,fun y hy=>⟨?_,h2 y hy⟩,h3,?_⟩,h1⟩
  · rw [h1] at hy
    exact (hi.top y (List.mem_filter.1 hy).1).1
  · rw [h1];exact Nat.le_trans (List.length_filter_le _ _) hi.len
def XTime (X:XM):Prop:=∀ y∈X.L,(0≤y.1∧y.1≤1099511627776)∧0≤y.2
theorem rng_all {X:XM}(h:XTime X):rngK (0,0) (1099511627777,0) X.L=X.L:=by
  unfold rngK
  refine List.filter_eq_self.2 fun y hy=>?_
  obtain ⟨h1,h2⟩:=h y hy
  unfold ltK
  simp only [Bool.and_eq_true,Bool.not_eq_true',Bool.or_eq_false_iff,Bool.and_eq_false_iff,Bool.or_eq_true,decide_eq_true_eq,decide_eq_false_iff_not]
  omega
theorem iPrune_spec (xb:Nat) (d l d':Option Addr) (X:XM) (lg:LM) (hX:XTime X) (hL:X.L.length≤1000000):Ct Pr F_index_Index_prune [.pointer (some ⟨xb,0,none⟩)] (.tup []) [] [IdxObj (some ⟨xb,0,none⟩) d l X,LogObj l d' lg] GBeh
    (fun _ Bs=>Bs=[IdxObj (some ⟨xb,0,none⟩) d l (pruneX X lg.lo),LogObj l d' lg]):=by
  refine spec0 c_index_Index_prune fun B hg=>?_
  haveI:FroP B GBeh:=⟨hg,fun _ _ h s=>GBeh.mono _ _ h s⟩
  unfold index_Index_prune
  refine xnew fun b1=>xget (h:=?_)
  refine xindex 1 fun xb' q hx=>?_
  obtain rfl:xb=xb':=by cases hx;rfl
  refine xnil (xget (h:=xget (h:=?_)))
  refine xcl (clear_spec xb d l q X.last) rdb ?_
  rintro _ _ rfl
  refine app1 (ca0 (xbeh0 (xbeh1 ?_)))
  refine xcall0 (Range_tree (to:=(1099511627777,0)) q (0,0)) rdb ?_
  rintro ⟨v,_⟩ _ ⟨fb,tb,qb,hv,rfl⟩
  simp only at hv;subst hv
  refine app3 (ca1 (xrfv hb_range (xrf fun lp D rec hr hn hct=>?_)))
  show Ent B _ (XCall Pr F_tree_Tree_Range_1 [yieldV lp,pv fb,pv tb,pv qb] (.tup []) [] _)
  let St:List KY→HP:=fun dd h=>star [LogObj l d' lg,IdxObj (some ⟨xb,0,none⟩) d l (pruneF lg.lo dd),Blk b1 [.pointer (some ⟨xb,0,none⟩)]] h
  have hN:(rngK (0,0) (1099511627777,0) X.L).length≤X.L.length:=List.length_filter_le _ _
  have hY:YOk lp rec (rngK (0,0) (1099511627777,0) X.L).length St:=by
    intro dd k v hd
    refine hct _ [St dd] emp (fun Cs=>Cs=[St (dd++[k])]) rfl fun B' _=>?_
    rw [t_index_Index_prune_rb]
    refine xnew fun c=>xset (h:=xset (h:=?_))
    refine xbusy 1 hr (xdraw (xget (h:=?_)))
    refine xopen 2 (P1:=St dd) (fun Bs=>Bs=[LogObj l d' lg,IdxObj (some ⟨xb,0,none⟩) d l (pruneF lg.lo dd),Blk b1 [.pointer (some ⟨xb,0,none⟩)]]) (fun g hg=>⟨_,rfl,hg⟩) ?_
    rintro _ rfl
    refine app3 (xget (h:=xnil ?_))
    refine xindex 1 fun xb' q' hx=>?_
    obtain rfl:xb=xb':=by cases hx;rfl
    refine xget (h:=xindex_back xb q' d l (pruneF lg.lo dd) ?_)
    refine xcl (sFirst_spec l d' lg) rdb ?_
    rintro ⟨t,_⟩ _ ⟨ht,rfl⟩
    simp only at ht;subst ht
    refine app1 (ca1 (xchk (h:=?_)))
    have hpl:=pruneF_len lg.lo dd
    refine xjoin0 (fun As'=>As'=[LoopP lp { rec with state:=.busy },LogObj l d' lg,IdxObj (some ⟨xb,0,none⟩) d l (pruneF lg.lo (dd++[k])),Blk b1 [.pointer (some ⟨xb,0,none⟩)]]) (fun K1 hK1=>?_) ?_
    · rw [pruneF_snoc] at hK1
      refine xif_dec (fun h=>?_) (fun h=>?_)
      · rw [if_pos h] at hK1
        refine xget (h:=xget (h:=xget (h:=?_)))
        refine xcl (putX_spec (some ⟨xb,0,none⟩) d l (pruneF lg.lo dd) k.1 k.2 (by omega)) rdb ?_
        rintro _ _ rfl
        exact app1 (ca0 (xuse' (hK1 _ rfl)))
      · rw [if_neg h] at hK1
        exact xuse' (hK1 _ rfl)
    · rintro _ rfl
      refine xready 0 hr hn ?_
      refine xfold [LogObj l d' lg,IdxObj (some ⟨xb,0,none⟩) d l (pruneF lg.lo (dd++[k])),Blk b1 [.pointer (some ⟨xb,0,none⟩)]] (St (dd++[k])) (fun g hg=>hg) ?_
      exact xuse [LoopP lp rec,St (dd++[k])] fun w hw=>⟨_,rfl,hw⟩
  refine xfold [LogObj l d' lg,IdxObj (some ⟨xb,0,none⟩) d l xm0,Blk b1 [.pointer (some ⟨xb,0,none⟩)]] (St []) (fun g hg=>hg) ?_
  refine xcl (range1_spec lp rec _ St hY fb tb qb (0,0) (1099511627777,0) q X.L [] (by simp)) rdb ?_
  rintro _ _ rfl
  refine app6 (ca0 (xendloop 0 hr hn ?_))
  rw [List.nil_append,rng_all hX]
  refine xopen 0 (P1:=St X.L) (fun Bs=>Bs=[LogObj l d' lg,IdxObj (some ⟨xb,0,none⟩) d l (pruneF lg.lo X.L),Blk b1 [.pointer (some ⟨xb,0,none⟩)]]) (fun g hg=>⟨_,rfl,hg⟩) ?_
  rintro _ rfl
  refine app3 ?_
  refine xfront (P:=DefP D) 7 ?_
  refine xtake 0 ?_
  exact xuse [IdxObj (some ⟨xb,0,none⟩) d l (pruneX X lg.lo),LogObj l d' lg] (xret rfl)
end Go.Cx
namespace Go.Cx
open Go Go.Cf
set_option linter.unusedVariables false
set_option maxRecDepth 100000
variable {B:Base}{As F:List HP}{α:Type}
theorem app5 {A1 A2 A3 A4 A5:HP}{F:List HP}{φ:WP}(h:Ent B (A1::A2::A3::A4::A5::F) φ):Ent B ([A1,A2,A3,A4,A5]++F) φ:=h
def kb (k:KY):List UInt8:=be8 (u64N k.1)++be8 (u64N k.2)
theorem kb_len (k:KY):(kb k).length=16:=by unfold kb;rw [List.length_append,be8_len,be8_len]
def stB (s:List UInt8×List UInt8) (k:KY):List UInt8×List UInt8:=if (s.2++kb k).length=1024 then (s.1++frameN (s.2++kb k),[]) else (s.1,s.2++kb k)
def filB (d:List KY):List UInt8×List UInt8:=d.foldl stB ([],[])
theorem filB_snoc (d:List KY) (k:KY):filB (d++[k])=stB (filB d) k:=by unfold filB;rw [List.foldl_append];rfl
def idxB (d:List KY):List UInt8:=if 0<(filB d).2.length then (filB d).1++frameN (filB d).2 else (filB d).1
theorem frameN_len (p:List UInt8):(frameN p).length=6+p.length:=by
  unfold frameN hdN crcB
  simp only [List.length_append,List.length_cons,List.length_nil]
theorem filB_rows (d:List KY):(filB d).2.length=16*(d.length % 64):=by
  induction d using snocInd with
  | h0=>rfl
  | h1 d k ih=>
    rw [filB_snoc,List.length_append,List.length_singleton]
    unfold stB
    rw [List.length_append,kb_len,ih]
    split
    · simp only [List.length_nil];omega
    · rw [List.length_append,kb_len,ih];omega
theorem filB_out (d:List KY):(filB d).1.length+(filB d).2.length≤22*d.length:=by
  induction d using snocInd with
  | h0=>exact Nat.le_refl 0
  | h1 d k ih=>
    rw [filB_snoc,List.length_append,List.length_singleton]
    unfold stB
    split
    · simp only [List.length_append,frameN_len,kb_len,List.length_nil];omega
    · simp only [List.length_append,kb_len];omega
theorem flush_spec (b2 b1:Nat) (s2 s1:Sl) (rows out:List UInt8) (hr:rows.length≤1024) (ho:out.length≤100000000):Ct Pr F_index_Index_bytes_1 [.pointer (some ⟨b2,0,none⟩),.pointer (some ⟨b1,0,none⟩)] (.tup []) []
    [Blk b2 [s2.v],Ar U8 s2 rows,Blk b1 [s1.v],Ar U8 s1 out] emp (fun _ Bs=>∃ s':Sl,Bs=[Blk b2 [.slice none 0 0],Blk b1 [s'.v],Ar U8 s' (out++frameN rows)]):=by
  refine spec0 c_index_Index_bytes_1 fun B _=>?_
  unfold index_Index_bytes_1
  refine xget (h:=?_)
  refine xcl (chunkPut_spec s2 rows hr) rdb ?_
  rintro ⟨t,c,_⟩ _ ⟨h,rfl⟩
  simp only at h;subst h
  refine app1 (ca2 ?_)
  refine xget (h:=?_)
  refine xapp (E:=U8) (hb:=by rw [frameN_len];omega) (h:=fun s'=>?_)
  refine xset (h:=xset (h:=?_))
  exact xuse [Blk b2 [.slice none 0 0],Blk b1 [s'.v],Ar U8 s' (out++frameN rows)] (xret ⟨s',rfl⟩)
theorem hb_flush:hasBody Pr F_index_Index_bytes_1=true:=by kernel_rfl
theorem iBytes_spec (x d l:Option Addr) (X:XM) (hX:XTime X) (hL:X.L.length≤1000000):Ct Pr F_index_Index_bytes [.pointer x] .one [.slice] [IdxObj x d l X] GBeh (fun t Bs=>Bs=[IdxObj x d l X,Ar U8 t.1 (idxB X.L)]):=by
  refine spec1 c_index_Index_bytes fun B hg=>?_
  haveI:FroP B GBeh:=⟨hg,fun _ _ h s=>GBeh.mono _ _ h s⟩
  unfold index_Index_bytes
  refine xnew fun b1=>xnew fun b2=>xnew fun b3=>xset (h:=xdraw ?_)
  refine xindex 3 fun xb q hx=>?_
  subst hx
  refine xnil (xget (h:=?_))
  refine xbeh0 (xbeh1 ?_)
  refine xcall0 (Range_tree (to:=(1099511627777,0)) q (0,0)) rdb ?_
  rintro ⟨v,_⟩ _ ⟨fb,tb,qb,hv,rfl⟩
  simp only at hv;subst hv
  refine app3 (ca1 (xrfv hb_range (xrf fun lp D rec hr hn hct=>?_)))
  show Ent B _ (XCall Pr F_tree_Tree_Range_1 [yieldV lp,pv fb,pv tb,pv qb] (.tup []) [] _)
  let fl:Value:=.func (.func 95) #[] #[.pointer (some ⟨b2,0,none⟩),.pointer (some ⟨b1,0,none⟩)]
  let St:List KY→HP:=fun dd h=>∃ s2 s1:Sl,star [Blk b3 [fl],Blk b2 [s2.v],Ar U8 s2 (filB dd).2,Blk b1 [s1.v],Ar U8 s1 (filB dd).1] h
  have hopen:∀ (dd:List KY) g,St dd g→∃ Bs,(∃ s2 s1:Sl,Bs=[Blk b3 [fl],Blk b2 [s2.v],Ar U8 s2 (filB dd).2,Blk b1 [s1.v],Ar U8 s1 (filB dd).1])∧star Bs g:=fun dd g ⟨s2,s1,hs⟩=>⟨_,⟨s2,s1,rfl⟩,hs⟩
  have hN:(rngK (0,0) (1099511627777,0) X.L).length≤X.L.length:=List.length_filter_le _ _
  have hY:YOk lp rec (rngK (0,0) (1099511627777,0) X.L).length St:=by
    intro dd k v hd
    refine hct _ [St dd] emp (fun Cs=>Cs=[St (dd++[k])]) rfl fun B' _=>?_
    rw [t_index_Index_bytes_rb]
    refine xnew fun c=>xset (h:=xset (h:=?_))
    refine xbusy 1 hr ?_
    refine xopen 2 (P1:=St dd) _ (hopen dd) ?_
    rintro _ ⟨s2,s1,rfl⟩
    have hrw:=filB_rows dd
    have hro:=filB_out dd
    refine app5 (xget (h:=xget (h:=?_)))
    rw [(u64N_lt k.1).2]
    refine xcl (packPut_spec s2 (filB dd).2 (u64N k.1) (u64N_lt k.1).1 (by omega)) rdb ?_
    rintro ⟨t,e,_⟩ _ ⟨h,rfl⟩
    simp only at h;subst h
    refine app1 (ca2 (xset (h:=xget (h:=xget (h:=?_)))))
    rw [(u64N_lt k.2).2]
    refine xcl (packPut_spec t ((filB dd).2++be8 (u64N k.1)) (u64N k.2) (u64N_lt k.2).1 (by rw [List.length_append,be8_len];omega)) rdb ?_
    rintro ⟨t2,e,_⟩ _ ⟨h,rfl⟩
    simp only at h;subst h
    refine app1 (ca2 (xset (h:=xget (h:=?_))))
    rw [show (filB dd).2++be8 (u64N k.1)++be8 (u64N k.2)=(filB dd).2++kb k from List.append_assoc _ _ _]
    refine xlen (E:=U8) (xs:=(filB dd).2++kb k) t2 fun htn _=>?_
    rw [List.length_append,kb_len] at htn
    refine xuse [LoopP lp { rec with state:=.busy },Blk b3 [fl],Blk b2 [t2.v],Ar U8 t2 ((filB dd).2++kb k),Blk b1 [s1.v],Ar U8 s1 (filB dd).1] ?_
    refine xjoin0 (fun As'=>∃ s2 s1:Sl,As'=[LoopP lp { rec with state:=.busy },Blk b3 [fl],Blk b2 [s2.v],Ar U8 s2 (filB (dd++[k])).2,Blk b1 [s1.v],Ar U8 s1 (filB (dd++[k])).1]) (fun K1 hK1=>?_) ?_
    · have hst:filB (dd++[k])=stB (filB dd) k:=filB_snoc dd k
      unfold stB at hst
      rw [List.length_append,kb_len] at hst
      refine xif (fun h=>?_) (fun h=>?_)
      · have h':(filB dd).2.length+16=1024:=by simp at h;omega
        rw [if_pos h'] at hst
        refine xget (h:=xdyn hb_flush ?_)
        refine xcl (flush_spec b2 b1 t2 s1 ((filB dd).2++kb k) (filB dd).1 (by rw [List.length_append,kb_len];omega) (by omega)) rdb ?_
        rintro _ _ ⟨s',rfl⟩
        refine app3 (ca0 (xnone U8 ?_))
        rw [hst] at hK1
        exact xuse [LoopP lp { rec with state:=.busy },Blk b3 [fl],Blk b2 [.slice none 0 0],Ar U8 ⟨none,0,0⟩ [],Blk b1 [s'.v],Ar U8 s' ((filB dd).1++frameN ((filB dd).2++kb k))] (hK1 _ ⟨⟨none,0,0⟩,s',rfl⟩)
      · have h':¬ (filB dd).2.length+16=1024:=by simp at h;omega
        rw [if_neg h'] at hst
        rw [hst] at hK1
        exact hK1 _ ⟨t2,s1,rfl⟩
    · rintro _ ⟨s2,s1,rfl⟩
      refine xready 0 hr hn ?_
      refine xfold [Blk b3 [fl],Blk b2 [s2.v],Ar U8 s2 (filB (dd++[k])).2,Blk b1 [s1.v],Ar U8 s1 (filB (dd++[k])).1] (St (dd++[k])) (fun g hg=>⟨s2,s1,hg⟩) ?_
      exact xuse [LoopP lp rec,St (dd++[k])] fun w hw=>⟨_,rfl,hw⟩
  refine xnone U8 (xnone U8 ?_)
  refine xfold [Blk b3 [fl],Blk b2 [.slice none 0 0],Ar U8 ⟨none,0,0⟩ [],Blk b1 [.slice none 0 0],Ar U8 ⟨none,0,0⟩ []] (St []) (fun g hg=>⟨⟨none,0,0⟩,⟨none,0,0⟩,hg⟩) ?_
  refine xcl (range1_spec lp rec _ St hY fb tb qb (0,0) (1099511627777,0) q X.L [] (by simp)) rdb ?_
  rintro _ _ rfl
  refine app6 (ca0 (xendloop 0 hr hn ?_))
  rw [List.nil_append,rng_all hX]
  refine xopen 0 (P1:=St X.L) _ (hopen _) ?_
  rintro _ ⟨s2,s1,rfl⟩
  have hrw:=filB_rows X.L
  have hro:=filB_out X.L
  refine app5 (xget (h:=?_))
  refine xlen (E:=U8) (xs:=(filB X.L).2) s2 fun htn _=>?_
  refine xindex_back xb q d l X ?_
  refine xjoin0 (fun As'=>∃ s1:Sl,As'=[DefP D,Blk b1 [s1.v],Ar U8 s1 (idxB X.L),IdxObj (some ⟨xb,0,none⟩) d l X]) (fun K1 hK1=>?_) ?_
  · refine xif_dec (fun h=>?_) (fun h=>?_)
    · refine xget (h:=xdyn hb_flush ?_)
      refine xcl (flush_spec b2 b1 s2 s1 (filB X.L).2 (filB X.L).1 (by omega) (by omega)) rdb ?_
      rintro _ _ ⟨s',rfl⟩
      refine app3 (ca0 ?_)
      have e:idxB X.L=(filB X.L).1++frameN (filB X.L).2:=by unfold idxB;rw [if_pos (by omega)]
      rw [←e]
      exact xuse [DefP D,Blk b1 [s'.v],Ar U8 s' (idxB X.L),IdxObj (some ⟨xb,0,none⟩) d l X] (hK1 _ ⟨s',rfl⟩)
    · have e:idxB X.L=(filB X.L).1:=by unfold idxB;rw [if_neg (by omega)]
      rw [←e]
      exact xuse [DefP D,Blk b1 [s1.v],Ar U8 s1 (idxB X.L),IdxObj (some ⟨xb,0,none⟩) d l X] (hK1 _ ⟨s1,rfl⟩)
  · rintro _ ⟨s1,rfl⟩
    refine xget (h:=?_)
    refine xtake 0 ?_
    exact xuse [IdxObj (some ⟨xb,0,none⟩) d l X,Ar U8 s1 (idxB X.L)] (xret rfl)
end Go.Cx
namespace Go.Cx
open Go Go.Cf
set_option linter.unusedVariables false
set_option maxRecDepth 100000
variable {B:Base}{As F:List HP}{α:Type}
theorem rFile16_spec (p:Sl) (L:List KY) (hL:L.length≤1000000):Ct Pr F_ref16_File [p.v] .one [.slice] [] (RAr KE p L) (fun t Bs=>Bs=[Ar U8 t.1 (idxB L)]):=by
  refine spec1 c_ref16_File fun B hr=>?_
  have fb:Fro B p KE L:=⟨hr⟩
  have hp:=hr.1
  unfold ref16_File
  refine xnone U8 (xnone U8 ?_)
  refine xloop3 (fun n (r o:Sl) (z:Int) As'=>∃ (i:Nat) (rs os:List UInt8),z=(i:Int)∧n=L.length - i∧i≤L.length∧(i<L.length→rs=(filB (L.take i)).2∧os=(filB (L.take i)).1)∧(i=L.length→os=idxB L)∧As'=[Ar U8 r rs,Ar U8 o os]) L.length ⟨0,[],[],rfl,rfl,by omega,fun _=>⟨rfl,rfl⟩,fun e=>?_,rfl⟩ ?_
  · obtain rfl:L=[]:=List.length_eq_zero_iff.1 e.symm
    rfl
  rintro n r o _ _ K ⟨i,rs,os,rfl,rfl,hi,hin,hend,rfl⟩ hK
  refine xif_dec (fun hlt=>?_) (fun hlt=>?_)
  · have hil:i<L.length:=by omega
    obtain ⟨rfl,rfl⟩:=hin hil
    obtain ⟨⟨a,q⟩,hy⟩:∃ y,L[i]? = some y:=⟨_,List.getElem?_eq_getElem hil⟩
    have etake:L.take (i+1)=L.take i++[(a,q)]:=by rw [List.take_add_one,hy];rfl
    have hrw:=filB_rows (L.take i)
    have hro:=filB_out (L.take i)
    have hst:filB (L.take (i+1))=stB (filB (L.take i)) (a,q):=by rw [etake];exact filB_snoc _ _
    rw [List.length_take] at hrw hro
    refine xidxn (E:=KE) (xs:=L) (s:=p) (h1:=hil) (h:=fun _ _=>?_)
    refine xgetE (E:=KE) (xs:=L) hy (h:=?_)
    rw [(u64N_lt a).2]
    refine xcl (rPut02_spec r (filB (L.take i)).2 (u64N a) (u64N_lt a).1 (by omega)) rdb ?_
    rintro ⟨t,e,_⟩ _ ⟨h,rfl⟩
    simp only at h;subst h
    refine app1 (ca2 ?_)
    refine xidxn (E:=KE) (xs:=L) (s:=p) (h1:=hil) (h:=fun _ _=>?_)
    refine xgetEj (E:=KE) (xs:=L) hy (h:=?_)
    rw [(u64N_lt q).2]
    refine xcl (rPut02_spec t ((filB (L.take i)).2++be8 (u64N a)) (u64N q) (u64N_lt q).1 (by rw [List.length_append,be8_len];omega)) rdb ?_
    rintro ⟨t2,e,_⟩ _ ⟨h,rfl⟩
    simp only at h;subst h
    refine app1 (ca2 (xasrt (by decide) ?_))
    rw [show (filB (L.take i)).2++be8 (u64N a)++be8 (u64N q)=(filB (L.take i)).2++kb (a,q) from List.append_assoc _ _ _]
    refine xuse [Ar U8 o (filB (L.take i)).1,Ar U8 t2 ((filB (L.take i)).2++kb (a,q))] ?_
    have hcond:((((i:Nat):Int).tmod 64 == 63)||(((i:Nat):Int) == (IntKind.i64.wrap ((p.n:Int) - 1))))=decide (i % 64=63∨i+1=L.length):=by
      rw [show ((i:Nat):Int).tmod 64=((i % 64:Nat):Int) from tmod_eq i 64,wrap_id _ (by omega) (by omega),Bool.eq_iff_iff]
      simp only [Bool.or_eq_true,beq_iff_eq,decide_eq_true_eq]
      omega
    rw [hcond]
    unfold stB at hst
    rw [List.length_append,kb_len] at hst
    refine xjoin2 (fun(o' r':Sl) As'=>∃ rs os:List UInt8,(i+1<L.length→rs=(filB (L.take (i+1))).2∧os=(filB (L.take (i+1))).1)∧(i+1=L.length→os=idxB L)∧As'=[Ar U8 r' rs,Ar U8 o' os]) (fun K1 hK1=>?_) ?_
    · refine xif_dec (fun h=>?_) (fun h=>?_)
      · refine xcl (rPut13_spec t2 ((filB (L.take i)).2++kb (a,q)) (by rw [List.length_append,kb_len];omega)) rdb ?_
        rintro ⟨t3,e,_⟩ _ ⟨h3,rfl⟩
        simp only at h3;subst h3
        refine app1 (ca2 ?_)
        refine xapp (E:=U8) (hb:=by rw [frameN_len,List.length_append,kb_len];omega) (h:=fun s'=>?_)
        refine xnone U8 ?_
        refine xuse [Ar U8 ⟨none,0,0⟩ [],Ar U8 s' ((filB (L.take i)).1++frameN ((filB (L.take i)).2++kb (a,q)))] (hK1 _ _ _ ⟨[],_,fun h4=>?_,fun h4=>?_,rfl⟩)
        · rw [if_pos (by omega)] at hst
          rw [hst];exact ⟨rfl,rfl⟩
        · have e4:L.take (i+1)=L:=List.take_of_length_le (by omega)
          rw [e4] at hst
          unfold idxB
          by_cases h5:(filB (L.take i)).2.length+16=1024
          · rw [if_pos h5] at hst
            rw [hst];rfl
          · rw [if_neg h5] at hst
            rw [hst,if_pos (by simp only [List.length_append,kb_len];omega)]
      · refine xuse [Ar U8 t2 ((filB (L.take i)).2++kb (a,q)),Ar U8 o (filB (L.take i)).1] (hK1 _ _ _ ⟨_,_,fun h4=>?_,fun h4=>absurd (.inr h4) h,rfl⟩)
        rw [if_neg (by omega)] at hst
        rw [hst];exact ⟨rfl,rfl⟩
    · rintro o' r' _ ⟨rs,os,h1,h2,rfl⟩
      rw [wrap_succ i (by omega)]
      exact hK (L.length - (i+1)) _ _ _ _ (by omega) ⟨i+1,rs,os,rfl,rfl,by omega,h1,h2,rfl⟩
  · rw [hend (by omega)]
    exact xuse [Ar U8 o (idxB L)] (xret rfl)
abbrev idxN:ByteArray:=⟨#[105,100,120]⟩
def layX (m:DM) (b:List UInt8):DM×Int:=
  if (appendM m idxNew b).2≠0 then appendM m idxNew b
  else if (syncM (appendM m idxNew b).1 idxNew).2≠0 then syncM (appendM m idxNew b).1 idxNew
  else renameM (syncM (appendM m idxNew b).1 idxNew).1 idxNew idxN
def saveM (m:DM) (lo:Int) (X:XM):DM×XM×Int:=
  if m.down=true then (m,X,10) else
  if (dropM m idxNew).2≠0 then ((dropM m idxNew).1,pruneX X lo,10) else
  ((layX (dropM m idxNew).1 (idxB (pruneX X lo).L)).1,pruneX X lo,(layX (dropM m idxNew).1 (idxB (pruneX X lo).L)).2)
theorem XTime.prune {X:XM}(h:XTime X) (hi:RInv X) (lo:Int):XTime (pruneX X lo):=by
  intro y hy
  rw [(prune_rinv hi lo).2] at hy
  exact h y (List.mem_filter.1 hy).1
theorem devAt {p:Option Addr}{m:DM}{h:Frag}(hg:DevObj p m h):∃ b,p=some ⟨b,0,none⟩:=by
  obtain ⟨_,b,_,_,hp,_⟩:=hg
  exact ⟨b,hp⟩
theorem iSave_spec (xb:Nat) (d l:Option Addr) (m:DM) (lm:LM) (X:XM) (hX:XTime X) (hi:RInv X):Ct Pr F_index_Index_Save [.pointer (some ⟨xb,0,none⟩)] .one [.int .i64] [IdxObj (some ⟨xb,0,none⟩) d l X,DevObj d m,LogObj l d lm] GBeh
    (fun t Bs=>t.1=(saveM m lm.lo X).2.2∧Bs=[IdxObj (some ⟨xb,0,none⟩) d l (saveM m lm.lo X).2.1,DevObj d (saveM m lm.lo X).1,LogObj l d lm]):=by
  refine spec1 c_index_Index_Save fun B hg=>?_
  haveI:FroP B GBeh:=⟨hg,fun _ _ h s=>GBeh.mono _ _ h s⟩
  unfold index_Index_Save
  have hlen:=hi.len
  have hpr:=prune_rinv hi lm.lo
  have hlen2:=hpr.1.len
  refine xfact 1 (P1:=DevObj d m) (fun g hg=>devAt hg) fun ⟨db,hd⟩=>?_
  subst hd
  refine xindex 0 fun xb' q hx=>?_
  obtain rfl:xb=xb':=by cases hx;rfl
  refine xnil (xget (h:=xnil ?_))
  refine xindex_back xb q (some ⟨db,0,none⟩) l X ?_
  refine xcl (Down_spec (some ⟨db,0,none⟩) m) rdb ?_
  rintro ⟨t,_⟩ _ ⟨ht,rfl⟩
  simp only at ht;subst ht
  refine app1 (ca1 (xif (fun hd=>?_) (fun hd=>?_)))
  · have e:saveM m lm.lo X=(m,X,10):=by unfold saveM;rw [if_pos hd]
    rw [e]
    exact xuse [IdxObj (some ⟨xb,0,none⟩) (some ⟨db,0,none⟩) l X,DevObj (some ⟨db,0,none⟩) m,LogObj l (some ⟨db,0,none⟩) lm] (xret ⟨rfl,rfl⟩)
  have hd':¬ m.down=true:=by rw [hd];decide
  refine xcl (iPrune_spec xb (some ⟨db,0,none⟩) l (some ⟨db,0,none⟩) X lm hX (by omega)) rdb ?_
  rintro _ _ rfl
  refine app2 (ca0 ?_)
  refine xindex 0 fun xb' q hx=>?_
  obtain rfl:xb=xb':=by cases hx;rfl
  refine xnil (xget (h:=?_))
  refine xindex_back xb q (some ⟨db,0,none⟩) l (pruneX X lm.lo) ?_
  refine xcl (idrop_spec (some ⟨db,0,none⟩) m idxNew) rdb ?_
  rintro ⟨t,_⟩ _ ⟨ht,rfl⟩
  simp only at ht;subst ht
  refine app1 (ca1 (xif (fun h=>?_) (fun h=>?_)))
  · have h':(dropM m idxNew).2≠0:=by simpa using h
    have e:saveM m lm.lo X=((dropM m idxNew).1,pruneX X lm.lo,10):=by unfold saveM;rw [if_neg hd',if_pos h']
    rw [e,drop_code h']
    exact xuse [IdxObj (some ⟨xb,0,none⟩) (some ⟨db,0,none⟩) l (pruneX X lm.lo),DevObj (some ⟨db,0,none⟩) (dropM m idxNew).1,LogObj l (some ⟨db,0,none⟩) lm] (xret ⟨rfl,rfl⟩)
  have h0:¬ (dropM m idxNew).2≠0:=by simpa using h
  have e:saveM m lm.lo X=((layX (dropM m idxNew).1 (idxB (pruneX X lm.lo).L)).1,pruneX X lm.lo,(layX (dropM m idxNew).1 (idxB (pruneX X lm.lo).L)).2):=by unfold saveM;rw [if_neg hd',if_neg h0]
  rw [e]
  generalize (dropM m idxNew).1=m1
  refine xdraw ?_
  refine xindex 1 fun xb' q hx=>?_
  obtain rfl:xb=xb':=by cases hx;rfl
  refine xnil (xget (h:=?_))
  refine xindex_back xb q (some ⟨db,0,none⟩) l (pruneX X lm.lo) ?_
  refine xcl (iBytes_spec (some ⟨xb,0,none⟩) (some ⟨db,0,none⟩) l (pruneX X lm.lo) (hX.prune hi lm.lo) hlen2) rdb ?_
  rintro ⟨t,_⟩ _ rfl
  refine app2 (ca1 ?_)
  refine xindex 0 fun xb' q hx=>?_
  obtain rfl:xb=xb':=by cases hx;rfl
  refine xchk (h:=?_)
  refine xindex_back xb q (some ⟨db,0,none⟩) l (pruneX X lm.lo) ?_
  generalize hb:idxB (pruneX X lm.lo).L=bs
  refine xcl (Append_spec (some ⟨db,0,none⟩) m1 idxNew t bs) rdb ?_
  rintro ⟨t2,_⟩ _ ⟨ht,rfl⟩
  simp only at ht;subst ht
  refine app1 (ca1 (xif (fun h=>?_) (fun h=>?_)))
  · have h':(appendM m1 idxNew bs).2≠0:=by simpa using h
    have e:layX m1 bs=appendM m1 idxNew bs:=by unfold layX;rw [if_pos h']
    rw [e]
    exact xuse [IdxObj (some ⟨xb,0,none⟩) (some ⟨db,0,none⟩) l (pruneX X lm.lo),DevObj (some ⟨db,0,none⟩) (appendM m1 idxNew bs).1,LogObj l (some ⟨db,0,none⟩) lm] (xret ⟨rfl,rfl⟩)
  have h1:¬ (appendM m1 idxNew bs).2≠0:=by simpa using h
  refine xindex 1 fun xb' q hx=>?_
  obtain rfl:xb=xb':=by cases hx;rfl
  refine xnil (xget (h:=?_))
  refine xindex_back xb q (some ⟨db,0,none⟩) l (pruneX X lm.lo) ?_
  refine xcl (Sync_spec (some ⟨db,0,none⟩) (appendM m1 idxNew bs).1 idxNew) rdb ?_
  rintro ⟨t2,_⟩ _ ⟨ht,rfl⟩
  simp only at ht;subst ht
  refine app1 (ca1 (xif (fun h=>?_) (fun h=>?_)))
  · have h':(syncM (appendM m1 idxNew bs).1 idxNew).2≠0:=by simpa using h
    have e:layX m1 bs=syncM (appendM m1 idxNew bs).1 idxNew:=by unfold layX;rw [if_neg h1,if_pos h']
    rw [e]
    exact xuse [IdxObj (some ⟨xb,0,none⟩) (some ⟨db,0,none⟩) l (pruneX X lm.lo),DevObj (some ⟨db,0,none⟩) (syncM (appendM m1 idxNew bs).1 idxNew).1,LogObj l (some ⟨db,0,none⟩) lm] (xret ⟨rfl,rfl⟩)
  have h2:¬ (syncM (appendM m1 idxNew bs).1 idxNew).2≠0:=by simpa using h
  have e:layX m1 bs=renameM (syncM (appendM m1 idxNew bs).1 idxNew).1 idxNew idxN:=by unfold layX;rw [if_neg h1,if_neg h2]
  rw [e]
  refine xindex 1 fun xb' q hx=>?_
  obtain rfl:xb=xb':=by cases hx;rfl
  refine xnil (xget (h:=?_))
  refine xindex_back xb q (some ⟨db,0,none⟩) l (pruneX X lm.lo) ?_
  refine xcl (Rename_spec (some ⟨db,0,none⟩) (syncM (appendM m1 idxNew bs).1 idxNew).1 idxNew idxN) rdb ?_
  rintro ⟨t2,_⟩ _ ⟨ht,rfl⟩
  simp only at ht;subst ht
  refine app1 (ca1 ?_)
  exact xuse [IdxObj (some ⟨xb,0,none⟩) (some ⟨db,0,none⟩) l (pruneX X lm.lo),DevObj (some ⟨db,0,none⟩) (renameM (syncM (appendM m1 idxNew bs).1 idxNew).1 idxNew idxN).1,LogObj l (some ⟨db,0,none⟩) lm] (xret ⟨rfl,rfl⟩)
theorem rSave16_spec (xb:Nat) (d l:Option Addr) (m:DM) (lm:LM) (X:XM):Ct Pr F_ref16_Index_Save [.pointer (some ⟨xb,0,none⟩)] .one [.int .i64] [RIdxObj (some ⟨xb,0,none⟩) d l X,RefDev d m,RLogObj l d lm] emp
    (fun t Bs=>t.1=(saveM m lm.lo X).2.2∧Bs=[RIdxObj (some ⟨xb,0,none⟩) d l (saveM m lm.lo X).2.1,RefDev d (saveM m lm.lo X).1,RLogObj l d lm]):=by
  refine spec1 c_ref16_Index_Save fun B _=>?_
  unfold ref16_Index_Save
  refine xridx 0 fun hi bx s hx=>?_
  obtain rfl:xb=bx:=by cases hx;rfl
  have hlen:=hi.len
  have hpr:=prune_rinv hi lm.lo
  have hlen2:=hpr.1.len
  refine xlen (E:=KE) (xs:=X.L) s fun hsn _=>?_
  refine xnil (xget (h:=?_))
  refine xuse [RefDev d m,Blk xb [.pointer d,.pointer l,s.v],Ar KE s X.L,RLogObj l d lm] ?_
  refine xroff (xif (fun hd=>?_) (fun hd=>?_))
  · have e:saveM m lm.lo X=(m,X,10):=by unfold saveM;rw [if_pos hd]
    rw [e]
    refine xridx_back (d:=d) (l:=l) (m:=X) xb s hi ?_
    exact xuse [RIdxObj (some ⟨xb,0,none⟩) d l X,RefDev d m,RLogObj l d lm] (xret ⟨rfl,rfl⟩)
  have hd':¬ m.down=true:=by rw [hd];decide
  refine xnone KE ?_
  refine xuse [RefDev d m,Blk xb [.pointer d,.pointer l,s.v],Ar KE s X.L,RLogObj l d lm,Ar KE ⟨none,0,0⟩ []] ?_
  refine xloop2 (fun n (left:Sl) (z:Int) As'=>∃ i:Nat,z=(i:Int)∧n=X.L.length - i∧i≤X.L.length∧As'=[RefDev d m,Blk xb [.pointer d,.pointer l,s.v],Ar KE s X.L,RLogObj l d lm,Ar KE left ((X.L.take i).filter fun k=>decide (k.2≥lm.lo))]) X.L.length ⟨0,rfl,rfl,by omega,rfl⟩ ?_
  rintro n left _ _ K ⟨i,rfl,rfl,hil,rfl⟩ hK
  refine xnil (xget (h:=xif_dec (fun hlt=>?_) (fun hlt=>?_)))
  · have hkl:i<X.L.length:=by omega
    obtain ⟨⟨t,q⟩,hy⟩:∃ y,X.L[i]? = some y:=⟨_,List.getElem?_eq_getElem hkl⟩
    have etake:X.L.take (i+1)=X.L.take i++[(t,q)]:=by rw [List.take_add_one,hy];rfl
    have hfl:((X.L.take i).filter fun k=>decide (k.2≥lm.lo)).length≤1000000:=Nat.le_trans (List.length_filter_le _ _) (by rw [List.length_take];omega)
    refine xdraw (xnil (xget (h:=?_)))
    refine xidxn (E:=KE) (xs:=X.L) (s:=s) (h1:=hkl) (h:=fun _ _=>?_)
    refine xgetEj (E:=KE) (xs:=X.L) hy (h:=?_)
    refine xnil (xget (h:=?_))
    refine xuse [RLogObj l d lm,RefDev d m,Blk xb [.pointer d,.pointer l,s.v],Ar KE s X.L,Ar KE left ((X.L.take i).filter fun k=>decide (k.2≥lm.lo))] ?_
    refine xrlo ?_
    refine xjoin1 (fun(left':Sl) As'=>As'=[RefDev d m,Blk xb [.pointer d,.pointer l,s.v],Ar KE s X.L,RLogObj l d lm,Ar KE left' ((X.L.take (i+1)).filter fun k=>decide (k.2≥lm.lo))]) (fun K1 hK1=>?_) ?_
    · rw [etake,List.filter_append] at hK1
      refine xif_dec (fun h=>?_) (fun h=>?_)
      · rw [List.filter_cons_of_pos (by simpa using h),List.filter_nil] at hK1
        refine xnil (xget (h:=?_))
        refine xidxn (E:=KE) (xs:=X.L) (s:=s) (h1:=hkl) (h:=fun _ _=>?_)
        refine xgetE (E:=KE) (xs:=X.L) hy (h:=?_)
        refine xgetEj (E:=KE) (xs:=X.L) hy (h:=?_)
        refine xnew fun b1=>?_
        refine xapp1 (E:=KE) (s:=left) (t,q) (hb:=by omega) (h:=fun s'=>?_)
        exact xuse [RefDev d m,Blk xb [.pointer d,.pointer l,s.v],Ar KE s X.L,RLogObj l d lm,Ar KE s' (((X.L.take i).filter fun k=>decide (k.2≥lm.lo))++[(t,q)])] (hK1 _ _ rfl)
      · rw [List.filter_cons_of_neg (by simpa using h),List.filter_nil,List.append_nil] at hK1
        exact xuse [RefDev d m,Blk xb [.pointer d,.pointer l,s.v],Ar KE s X.L,RLogObj l d lm,Ar KE left ((X.L.take i).filter fun k=>decide (k.2≥lm.lo))] (hK1 _ _ rfl)
    · rintro left' _ rfl
      rw [wrap_succ i (by omega)]
      exact hK (X.L.length - (i+1)) _ _ _ (by omega) ⟨i+1,rfl,rfl,by omega,rfl⟩
  rw [List.take_of_length_le (by omega),←hpr.2]
  clear hK K
  refine xnil (xset (h:=?_))
  refine xridx_back (d:=d) (l:=l) (m:=pruneX X lm.lo) xb left hpr.1 ?_
  refine xridx 0 fun _ bx s' hx=>?_
  obtain rfl:xb=bx:=by cases hx;rfl
  refine xnil (xget (h:=?_))
  refine xridx_back (d:=d) (l:=l) (m:=pruneX X lm.lo) xb s' hpr.1 ?_
  refine xuse [RIdxObj (some ⟨xb,0,none⟩) d l (pruneX X lm.lo),RefDev d m,RLogObj l d lm] ?_
  refine xcl (rFind_spec d m _) rdb ?_
  rintro ⟨t,_⟩ _ ⟨ht,rfl⟩
  simp only at ht;subst ht
  refine app1 (ca1 ?_)
  refine xjoin1 (fun(c:Bool) As'=>(c=true↔(dropM m idxNew).2≠0)∧As'=[RIdxObj (some ⟨xb,0,none⟩) d l (pruneX X lm.lo),RefDev d (dropM m idxNew).1,RLogObj l d lm]) (fun K1 hK1=>?_) ?_
  · cases ht:thereL m.fs idxNew.toList with
    | true=>
      refine xift (by rw [fIdx_yes ht];simp) ?_
      refine xridx 1 fun _ bx s' hx=>?_
      obtain rfl:xb=bx:=by cases hx;rfl
      refine xnil (xget (h:=?_))
      refine xridx_back (d:=d) (l:=l) (m:=pruneX X lm.lo) xb s' hpr.1 ?_
      refine xcl (rRemove_spec d m _) rdb ?_
      rintro ⟨t,_⟩ _ ⟨ht2,rfl⟩
      simp only at ht2;subst ht2
      rw [drop_there hd ht] at hK1
      refine app1 (ca1 ?_)
      exact xuse [RIdxObj (some ⟨xb,0,none⟩) d l (pruneX X lm.lo),RefDev d (removeM m idxNew).1,RLogObj l d lm] (hK1 _ _ ⟨by simp,rfl⟩)
    | false=>
      refine xiff (by rw [fIdx_no ht];rfl) ?_
      rw [drop_none hd ht] at hK1
      exact xuse [RIdxObj (some ⟨xb,0,none⟩) d l (pruneX X lm.lo),RefDev d m,RLogObj l d lm] (hK1 _ _ ⟨by simp,rfl⟩)
  rintro c _ ⟨hc,rfl⟩
  refine xif (fun h=>?_) (fun h=>?_)
  · have h':=hc.1 h
    have e:saveM m lm.lo X=((dropM m idxNew).1,pruneX X lm.lo,10):=by unfold saveM;rw [if_neg hd',if_pos h']
    rw [e]
    exact xret ⟨rfl,rfl⟩
  have h0:¬ (dropM m idxNew).2≠0:=fun e=>by rw [hc.2 e] at h;cases h
  have e:saveM m lm.lo X=((layX (dropM m idxNew).1 (idxB (pruneX X lm.lo).L)).1,pruneX X lm.lo,(layX (dropM m idxNew).1 (idxB (pruneX X lm.lo).L)).2):=by unfold saveM;rw [if_neg hd',if_neg h0]
  rw [e]
  generalize (dropM m idxNew).1=m1
  refine xdraw ?_
  refine xridx 0 fun _ bx s' hx=>?_
  obtain rfl:xb=bx:=by cases hx;rfl
  refine xnil (xget (h:=xnil (xget (h:=?_))))
  refine xcl (rFile16_spec s' (pruneX X lm.lo).L hlen2) rdb ?_
  rintro ⟨t,_⟩ _ rfl
  refine app1 (ca1 (xchk (h:=?_)))
  refine xridx_back (d:=d) (l:=l) (m:=pruneX X lm.lo) xb s' hpr.1 ?_
  generalize hb:idxB (pruneX X lm.lo).L=bs
  refine xcl (rAppend_spec d m1 idxNew t bs) rdb ?_
  rintro ⟨t2,_⟩ _ ⟨ht,rfl⟩
  simp only at ht;subst ht
  refine app1 (ca1 ?_)
  refine xuse [RIdxObj (some ⟨xb,0,none⟩) d l (pruneX X lm.lo),RefDev d (appendM m1 idxNew bs).1,RLogObj l d lm] ?_
  let r1:DM×Int:=if (appendM m1 idxNew bs).2=0 then syncM (appendM m1 idxNew bs).1 idxNew else appendM m1 idxNew bs
  refine xjoin1 (fun(e:Int) As'=>e=r1.2∧As'=[RIdxObj (some ⟨xb,0,none⟩) d l (pruneX X lm.lo),RefDev d r1.1,RLogObj l d lm]) (fun K1 hK1=>?_) ?_
  · refine xif (fun h=>?_) (fun h=>?_)
    · have h':(appendM m1 idxNew bs).2=0:=by simpa using h
      have e1:r1=syncM (appendM m1 idxNew bs).1 idxNew:=if_pos h'
      refine xridx 0 fun _ bx s' hx=>?_
      obtain rfl:xb=bx:=by cases hx;rfl
      refine xnil (xget (h:=?_))
      refine xridx_back (d:=d) (l:=l) (m:=pruneX X lm.lo) xb s' hpr.1 ?_
      refine xcl (rSync_spec d (appendM m1 idxNew bs).1 idxNew) rdb ?_
      rintro ⟨t,_⟩ _ ⟨ht2,rfl⟩
      simp only at ht2;subst ht2
      refine app1 (ca1 ?_)
      rw [e1] at hK1
      exact xuse [RIdxObj (some ⟨xb,0,none⟩) d l (pruneX X lm.lo),RefDev d (syncM (appendM m1 idxNew bs).1 idxNew).1,RLogObj l d lm] (hK1 _ _ ⟨rfl,rfl⟩)
    · have h':¬ (appendM m1 idxNew bs).2=0:=by simpa using h
      have e1:r1=appendM m1 idxNew bs:=if_neg h'
      rw [e1] at hK1
      exact hK1 _ _ ⟨rfl,rfl⟩
  rintro _ _ ⟨rfl,rfl⟩
  have e2:layX m1 bs=if r1.2=0 then renameM r1.1 idxNew idxN else r1:=by
    unfold layX
    show _=if (if (appendM m1 idxNew bs).2=0 then syncM (appendM m1 idxNew bs).1 idxNew else appendM m1 idxNew bs).2=0 then _ else _
    by_cases h1:(appendM m1 idxNew bs).2=0
    · rw [if_neg (by simpa using h1),if_pos h1]
      by_cases h2:(syncM (appendM m1 idxNew bs).1 idxNew).2=0
      · rw [if_neg (by simpa using h2),if_pos h2]
        show _=renameM (if (appendM m1 idxNew bs).2=0 then syncM (appendM m1 idxNew bs).1 idxNew else appendM m1 idxNew bs).1 idxNew idxN
        rw [if_pos h1]
      · rw [if_pos h2,if_neg h2];exact (if_pos h1).symm
    · rw [if_pos h1,if_neg h1,if_neg h1];exact (if_neg h1).symm
  rw [e2]
  generalize r1=r
  refine xjoin1 (fun(e:Int) As'=>e=(if r.2=0 then renameM r.1 idxNew idxN else r).2∧As'=[RIdxObj (some ⟨xb,0,none⟩) d l (pruneX X lm.lo),RefDev d (if r.2=0 then renameM r.1 idxNew idxN else r).1,RLogObj l d lm]) (fun K1 hK1=>?_) ?_
  · refine xif (fun h=>?_) (fun h=>?_)
    · have h':r.2=0:=by simpa using h
      rw [if_pos h'] at hK1
      refine xridx 0 fun _ bx s' hx=>?_
      obtain rfl:xb=bx:=by cases hx;rfl
      refine xnil (xget (h:=?_))
      refine xridx_back (d:=d) (l:=l) (m:=pruneX X lm.lo) xb s' hpr.1 ?_
      refine xcl (rRename_spec d r.1 idxNew idxN) rdb ?_
      rintro ⟨t,_⟩ _ ⟨ht2,rfl⟩
      simp only at ht2;subst ht2
      refine app1 (ca1 ?_)
      exact xuse [RIdxObj (some ⟨xb,0,none⟩) d l (pruneX X lm.lo),RefDev d (renameM r.1 idxNew idxN).1,RLogObj l d lm] (hK1 _ _ ⟨rfl,rfl⟩)
    · have h':¬ r.2=0:=by simpa using h
      rw [if_neg h'] at hK1
      exact hK1 _ _ ⟨rfl,rfl⟩
  rintro _ _ ⟨rfl,rfl⟩
  exact xret ⟨rfl,rfl⟩
end Go.Cx
namespace Go.Cx
open Go Go.Cf
set_option linter.unusedVariables false
set_option maxRecDepth 100000
variable {B:Base}{As F:List HP}{α:Type}
theorem wrapU8 (z:Int):∃ x:UInt8,IntKind.u8.wrap z=(x.toNat:Int):=by
  have h:0≤IntKind.u8.wrap z∧IntKind.u8.wrap z<256:=by
    show 0≤z % 256∧z % 256<256
    omega
  refine ⟨UInt8.ofNat (IntKind.u8.wrap z).toNat,?_⟩
  rw [UInt8.toNat_ofNat']
  omega
theorem eight11_spec (b:Sl) (xs:List UInt8) (v:Int) (hx:xs.length≤1000000):Ct Pr F_ref11_eight [b.v,.int .i64 v] .one [.slice] [Ar U8 b xs] emp (fun t Bs=>∃ ys:List UInt8,ys.length=xs.length+8∧Bs=[Ar U8 t.1 ys]):=by
  refine spec1 c_ref11_eight fun B _=>?_
  unfold ref11_eight
  refine xloop2 (fun n (o:Sl) (z:Int) As'=>∃ (i:Nat) (ys:List UInt8),z=7 - (i:Int)∧n=8 - i∧i≤8∧ys.length=xs.length+i∧As'=[Ar U8 o ys]) 8 ⟨0,xs,rfl,rfl,by omega,rfl,rfl⟩ ?_
  rintro n o _ _ K ⟨i,ys,rfl,rfl,hi,hy,rfl⟩ hK
  refine xif_dec (fun hlt=>?_) (fun hlt=>?_)
  · obtain ⟨x,hxx⟩:=wrapU8 (Int.fdiv (IntKind.u64.wrap v) (2 ^ (min (Int.toNat (IntKind.u64.wrap (IntKind.i64.wrap (8*(7 - (i:Int)))))) 64)))
    rw [hxx]
    refine xasrt (by rw [(u64N_lt _).2];omega) (xnew fun b2=>?_)
    refine xapp1 (E:=U8) x (hb:=by omega) (h:=fun s'=>?_)
    rw [wrap_id _ (by omega) (by omega)]
    exact hK (8 - (i+1)) _ _ _ (by omega) ⟨i+1,ys++[x],by omega,rfl,by omega,by simp [hy];omega,rfl⟩
  · exact xret ⟨ys,by omega,rfl⟩
theorem rPut11_spec (r:RE) (ht:r.tag.size≤4096):Ct Pr F_ref11_Put [r.v] (.tup [none,none]) [.slice,.int .i64] [] emp (fun t Bs=>t.2.1=checkR r∧∃ bs:List UInt8,bs.length≤10000∧Bs=[Ar U8 t.1 bs]):=by
  refine spec2 c_ref11_Put fun B _=>?_
  unfold ref11_Put
  refine xnew fun b=>?_
  iterate 5 (refine xget (h:=?_))
  refine xcl (rCheck_spec r) rdb ?_
  rintro ⟨t,_⟩ _ ⟨ht2,rfl⟩
  simp only at ht2;subst ht2
  refine app0 (ca1 (xif (fun h=>?_) (fun h=>?_)))
  · refine xnone U8 ?_
    exact xuse [Ar U8 ⟨none,0,0⟩ []] (xret ⟨rfl,[],by simp,rfl⟩)
  have hc:checkR r=0:=by simpa using h
  rw [hc]
  obtain ⟨x0,hx0⟩:=wrapU8 r.kind
  refine xget (h:=?_)
  rw [hx0]
  refine xnew fun b1=>xget (h:=?_)
  refine xfold1 (Q:=Ar U8 ⟨some ⟨b1,0,none⟩,1,1⟩ [x0]) 0 (fun g hg=>⟨[],blk_ar [x0] 1 rfl rfl hg⟩) ?_
  refine xcl (eight11_spec ⟨some ⟨b1,0,none⟩,1,1⟩ [x0] r.time (by simp)) rdb ?_
  rintro ⟨s,_⟩ _ ⟨ys,hys,rfl⟩
  refine app1 (ca1 (xget (h:=?_)))
  refine xcl (tagged_spec r.kind) rdb ?_
  rintro ⟨t,_⟩ _ ⟨ht2,rfl⟩
  simp only at ht2;subst ht2
  refine app0 (ca1 ?_)
  let J:Nat→Sl→List HP→Prop:=fun k s As'=>∃ ys:List UInt8,ys.length≤k∧As'=[Blk b [.int .i64 r.kind,.int .i64 r.time,.string r.tag,.int .i64 r.val,.int .i64 r.id],Ar U8 s ys]
  refine xjoin1 (fun(s:Sl) As'=>J 5000 s As') (fun K1 hK1=>?_) ?_
  · refine xif (fun h=>?_) (fun h=>?_)
    · obtain ⟨x1,hx1⟩:=wrapU8 (r.tag.size:Int)
      refine xget (h:=?_)
      rw [hx1]
      refine xnew fun b2=>?_
      refine xapp1 (E:=U8) x1 (hb:=by simp at hys;omega) (h:=fun s1=>?_)
      have hsz:r.tag.data.toList.length=r.tag.size:=rfl
      refine xuse [Blk b [.int .i64 r.kind,.int .i64 r.time,.string r.tag,.int .i64 r.val,.int .i64 r.id],Ar U8 s1 (ys++[x1])] ?_
      refine xloop2 (fun n (o:Sl) (z:Int) As'=>∃ (i:Nat) (zs:List UInt8),z=(i:Int)∧n=r.tag.size - i∧i≤r.tag.size∧zs.length=10+i∧As'=[Blk b [.int .i64 r.kind,.int .i64 r.time,.string r.tag,.int .i64 r.val,.int .i64 r.id],Ar U8 o zs]) r.tag.size ⟨0,_,rfl,rfl,by omega,by simp [hys],rfl⟩ ?_
      rintro n o _ _ K ⟨i,zs,rfl,rfl,hi,hz,rfl⟩ hK
      refine xget (h:=xif_dec (fun hlt=>?_) (fun hlt=>?_))
      · have hb2:=List.getElem?_eq_getElem (l:=r.tag.data.toList) (i:=i) (by omega)
        refine xget (h:=xbyte (k:=i) rfl hb2 (xnew fun b4=>?_))
        refine xapp1 (E:=U8) (r.tag.data.toList[i]) (hb:=by omega) (h:=fun s2=>?_)
        rw [wrap_succ i (by omega)]
        refine xuse [Blk b [.int .i64 r.kind,.int .i64 r.time,.string r.tag,.int .i64 r.val,.int .i64 r.id],Ar U8 s2 (zs++[r.tag.data.toList[i]])] ?_
        exact hK (r.tag.size - (i+1)) _ _ _ (by omega) ⟨i+1,_,rfl,rfl,by omega,by simp [hz];omega,rfl⟩
      · exact hK1 _ _ ⟨zs,by omega,rfl⟩
    · exact xuse [Blk b [.int .i64 r.kind,.int .i64 r.time,.string r.tag,.int .i64 r.val,.int .i64 r.id],Ar U8 s ys] (hK1 _ _ ⟨ys,by simp at hys;omega,rfl⟩)
  rintro s5 _ ⟨y5,hy5,rfl⟩
  refine xget (h:=?_)
  refine xcl (named_spec11 r.kind) rdb ?_
  rintro ⟨t,_⟩ _ ⟨ht2,rfl⟩
  simp only at ht2;subst ht2
  refine app0 (ca1 ?_)
  refine xjoin1 (fun(s:Sl) As'=>J 6000 s As') (fun K1 hK1=>?_) ?_
  · refine xif (fun h=>?_) (fun h=>?_)
    · refine xget (h:=?_)
      refine xcl (eight11_spec s5 y5 r.id (by omega)) rdb ?_
      rintro ⟨s,_⟩ _ ⟨zs,hzs,rfl⟩
      refine app1 (ca1 ?_)
      exact xuse [Blk b [.int .i64 r.kind,.int .i64 r.time,.string r.tag,.int .i64 r.val,.int .i64 r.id],Ar U8 s zs] (hK1 _ _ ⟨zs,by omega,rfl⟩)
    · exact hK1 _ _ ⟨y5,by omega,rfl⟩
  rintro s6 _ ⟨y6,hy6,rfl⟩
  refine xget (h:=?_)
  refine xcl (valued_spec r.kind) rdb ?_
  rintro ⟨t,_⟩ _ ⟨ht2,rfl⟩
  simp only at ht2;subst ht2
  refine app0 (ca1 ?_)
  refine xjoin1 (fun(s:Sl) As'=>J 7000 s As') (fun K1 hK1=>?_) ?_
  · refine xif (fun h=>?_) (fun h=>?_)
    · refine xget (h:=?_)
      refine xcl (eight11_spec s6 y6 r.val (by omega)) rdb ?_
      rintro ⟨s,_⟩ _ ⟨zs,hzs,rfl⟩
      refine app1 (ca1 ?_)
      exact xuse [Blk b [.int .i64 r.kind,.int .i64 r.time,.string r.tag,.int .i64 r.val,.int .i64 r.id],Ar U8 s zs] (hK1 _ _ ⟨zs,by omega,rfl⟩)
    · exact hK1 _ _ ⟨y6,by omega,rfl⟩
  rintro s7 _ ⟨y7,hy7,rfl⟩
  exact xuse [Ar U8 s7 y7] (xret ⟨rfl,y7,by omega,rfl⟩)
end Go.Cx
namespace Go.Cx
open Go Go.Cf
set_option linter.unusedVariables false
set_option maxRecDepth 100000
variable {B:Base}{As F:List HP}{α:Type}
theorem getB_mem {fs:List DF}{k:Key}{b:List UInt8}(h:getB fs k=some b):∃ f∈fs,f.key=k∧f.b=b:=by
  unfold getB at h
  cases e:getF fs k with
  | none=>rw [e] at h;cases h
  | some f=>
    rw [e] at h
    exact ⟨f,getF_mem e,getF_key e,by simpa using h⟩
def sizes (L:List Sg):Int:=(L.map (·.size)).sum
theorem cum_used:∀ (L:List Sg) (fs:List DF),L.Pairwise (fun a b=>fK a.n≠fK b.n)→(∀ s∈L,∃ f∈fs,f.key=fK s.n∧s.size≤(f.b.length:Int))→sizes L≤(usedN fs:Int)
  | [],fs,_,_=>by show (0:Int)≤_;omega
  | s::L,fs,hp,h=>by
    obtain ⟨f,hf,hk,hsz⟩:=h s (by simp)
    obtain ⟨a,c,rfl⟩:=List.append_of_mem hf
    obtain ⟨hp1,hp2⟩:=List.pairwise_cons.1 hp
    have ih:=cum_used L (a++c) hp2 fun t ht=>by
      obtain ⟨g,hg,hgk,hgs⟩:=h t (by simp [ht])
      refine ⟨g,?_,hgk,hgs⟩
      rcases List.mem_append.1 hg with hg | hg
      · exact List.mem_append_left _ hg
      · rcases List.mem_cons.1 hg with rfl | hg
        · exact absurd (hk.symm.trans hgk) (hp1 t ht)
        · exact List.mem_append_right _ hg
    have e:usedN (a++f::c)=usedN (a++c)+f.b.length:=by
      unfold usedN
      simp only [List.map_append,List.map_cons,List.sum_append,List.sum_cons]
      omega
    rw [e]
    show s.size+sizes L≤_
    omega
def pays (L:List Sg):Int:=(L.map fun s=>(s.ps.length:Int)).sum
theorem chain_len:∀ (L:List Sg) (s0 sl:Sg),L.head? = some s0→L.getLast? = some sl→(∀ (k:Nat) s s',L[k]? = some s→L[k+1]? = some s'→s'.first=s.next)→sl.next - s0.first=pays L
  | [],s0,sl,h,_,_=>by cases h
  | [s],s0,sl,h,h2,_=>by
    obtain rfl:s=s0:=by simpa using h
    obtain rfl:s=sl:=by simpa using h2
    show s.first+_ - s.first=(s.ps.length:Int)+0
    omega
  | s::t::r,s0,sl,h,h2,hc=>by
    obtain rfl:s=s0:=by simpa using h
    have ih:=chain_len (t::r) t sl rfl (by simpa using h2) fun k a b ha hb=>hc (k+1) a b ha hb
    have h3:=hc 0 s t rfl rfl
    show sl.next - s.first=(s.ps.length:Int)+pays (t::r)
    unfold Sg.next at h3 ih ⊢
    omega
theorem pays_le:∀ (L:List Sg),(∀ s∈L,(s.ps.length:Int)≤s.size)→pays L≤sizes L
  | [],_=>Int.le_refl 0
  | s::L,h=>by
    have ih:=pays_le L fun t ht=>h t (by simp [ht])
    have:=h s (by simp)
    show (s.ps.length:Int)+pays L≤s.size+sizes L
    omega
theorem Ldev.few {m:DM}{l:LM}(h:Ldev m l) (hd:m.down=false):l.next - l.lo≤m.room:=by
  have hr:=h.inv.room
  cases hs:l.segs with
  | nil=>
    have:l.next=l.first:=by unfold LM.next LM.cur;rw [hs];rfl
    have:l.lo=l.first:=by unfold LM.lo;rw [hs]
    omega
  | cons s0 r=>
    obtain ⟨sl,hl⟩:∃ sl,l.segs.getLast? = some sl:=by
      rw [hs];exact ⟨_,List.getLast?_eq_some_getLast (by simp)⟩
    have h1:l.next=sl.next:=by unfold LM.next LM.cur;rw [hl]
    have h2:l.lo=s0.first:=by unfold LM.lo;rw [hs]
    have h3:=chain_len l.segs s0 sl (by rw [hs];rfl) hl h.log.chain
    have h4:=pays_le l.segs fun s hm=>(h.log.segs s hm).2.2.2.1
    have h5:=cum_used l.segs m.fs h.keys fun s hm=>by
      obtain ⟨b,hb,hz⟩:=h.files hd s hm
      obtain ⟨f,hf,hk,rfl⟩:=getB_mem hb
      exact ⟨f,hf,hk,hz⟩
    have h6:=h.inv.used
    omega
end Go.Cx
namespace Go.Cx
open Go Go.Cf
set_option linter.unusedVariables false
set_option maxRecDepth 100000
variable {B:Base}{As F:List HP}{α:Type}
theorem fK_idxNew (n:Int):fK n≠idxNew.toList:=by
  rw [fK_list];show preL++_≠(BA [105,100,120,46,110,101,119]).toList;rw [BA_toList]
  intro h
  have:=congrArg (fun l=>l[0]?) h
  simp [preL] at this
theorem fK_idx (n:Int):fK n≠idxN.toList:=by
  rw [fK_list];show preL++_≠(BA [105,100,120]).toList;rw [BA_toList]
  intro h
  have:=congrArg (fun l=>l[0]?) h
  simp [preL] at this
theorem Ldev.grow {m:DM}{l:LM}(h:Ldev m l) (nm:ByteArray) (b:List UInt8):Ldev (appendM m nm b).1 l:=by
  have t:=append_touch h.inv nm b
  refine ⟨t.inv,h.log,h.cur,h.safe,fun hd s hs=>?_,h.ord⟩
  have hm:=(t.keep hd).1
  have hf:=h.files hm s hs
  by_cases hk:fK s.n=nm.toList
  · obtain ⟨c,hc,hz⟩:=hf
    cases hn:namedB nm with
    | false=>
      have:appendM m nm b=(m,8):=by unfold appendM;rw [if_pos (by rw [hn];rfl)]
      rw [this];exact ⟨c,hc,hz⟩
    | true=>
      rcases append_or h.inv hn hm (b:=b) with ⟨e,_⟩ | e | ⟨e,_⟩
      · rw [e];exact ⟨c,hc,hz⟩
      · rw [e.2] at hd;cases hd
      · obtain ⟨c',h1,h2⟩:=getB_app h.inv.sorted nm b
        have:=h2 c (by rw [←hk];exact hc)
        subst this
        refine ⟨c++b,by rw [e.files,hk];exact h1,?_⟩
        rw [List.length_append];omega
  · exact hf.touch t hd hk
theorem layX_touch {m:DM}(hI:DInv m) (b:List UInt8):Touch m (layX m b).1 fun k=>k≠idxNew.toList∧k≠idxN.toList:=by
  have t1:=(append_touch hI idxNew b).mono (T:=fun k=>k≠idxNew.toList∧k≠idxN.toList) fun k h=>h.1
  unfold layX
  split
  · exact t1
  have t2:=t1.trans ((sync_touch t1.inv idxNew).mono (T:=fun k=>k≠idxNew.toList∧k≠idxN.toList) fun k h=>trivial)
  split
  · exact t2
  exact t2.trans (rename_touch t2.inv idxNew idxN)
theorem save_touch {m:DM}(hI:DInv m) (lo:Int) (X:XM):Touch m (saveM m lo X).1 fun k=>k≠idxNew.toList∧k≠idxN.toList:=by
  unfold saveM
  split
  · exact Touch.refl hI _
  have t:=(drop_touch hI idxNew).mono (T:=fun k=>k≠idxNew.toList∧k≠idxN.toList) fun k h=>h.1
  split
  · exact t
  exact t.trans (layX_touch t.inv _)
theorem Ldev.save {m:DM}{l:LM}(h:Ldev m l) (lo:Int) (X:XM):Ldev (saveM m lo X).1 l:=h.touch (save_touch h.inv lo X) fun s _=>⟨fK_idxNew s.n,fK_idx s.n⟩
theorem Ldev.drop {m:DM}{l:LM}(h:Ldev m l):Ldev (dropM m idxNew).1 l:=h.touch (drop_touch h.inv idxNew) fun s _=>fK_idxNew s.n
theorem append_room {m:DM}{l:LM}(h:Ldev m l) (p:List UInt8):(appendL m l p).1.room=m.room:=by
  obtain ⟨g1,g2,g3⟩:=h.sync
  unfold appendL
  split
  · rfl
  split
  · rfl
  split
  · rfl
  have hy:DInv (if l.full=true then syncL m l else (m,l,0)).1∧(if l.full=true then syncL m l else (m,l,0)).1.room=m.room:=by
    split
    · exact ⟨g3.inv,g3.room⟩
    · exact ⟨h.inv,rfl⟩
  generalize (if l.full=true then syncL m l else (m,l,0))=y at *
  dsimp only
  generalize (if l.full=true then l.curN+1 else l.curN)=n at *
  split
  · exact hy.2
  split<;>exact (append_touch hy.1 _ _).room.trans hy.2
theorem trim_room {m:DM}{l:LM}(h:Ldev m l) (to keep:Int):(trimL m l to keep).1.room=m.room:=by
  unfold trimL
  split
  · rfl
  split
  · rfl
  have hkl:=drops_le l to keep
  rename_i hk
  obtain ⟨sg,hsg⟩:∃ sg,l.segs[dropsL l to keep]? = some sg:=⟨_,List.getElem?_eq_getElem (by omega)⟩
  rw [hsg]
  simp only [Option.getD_some]
  have t:=lay_touch h.inv sg
  have hl:=h.touch t fun s _=>⟨fK_new s.n,fK_head s.n⟩
  split
  · exact t.room
  obtain ⟨t2,_⟩:=gone_spec2 (l.segs.take (dropsL l to keep)) (layM m sg).1 t.inv (fun hd s hs=>hl.files hd s (List.mem_of_mem_take hs)) (h.keys.sublist (List.take_sublist _ _))
  split<;>exact t2.room.trans t.room
structure XOk (c:Nat) (X:XM):Prop where
  time:XTime X
  inv:RInv X
  len:X.L.length≤65536+c
theorem XOk.prune {c:Nat}{X:XM}(h:XOk c X) (lo:Int):XOk c (pruneX X lo):=
  ⟨h.time.prune h.inv lo,(prune_rinv h.inv lo).1,by rw [(prune_rinv h.inv lo).2];exact Nat.le_trans (List.length_filter_le _ _) h.len⟩
theorem XOk.save {c:Nat}{X:XM}(h:XOk c X) (m:DM) (lo:Int):XOk c (saveM m lo X).2.1:=by
  unfold saveM
  split
  · exact h
  split<;>exact h.prune lo
theorem ins_of2 {k y:KY}{l:List KY}(h:y∈insK k l):y=k∨y∈l:=by
  unfold insK at h
  split at h
  · exact .inr h
  · simp only [List.mem_append,List.mem_cons,List.mem_filter] at h
    rcases h with h | h | h
    · exact .inr h.1
    · exact .inl h
    · exact .inr h.1
theorem XTime.put {X:XM}(h:XTime X) {t n:Int}(h1:0≤t∧t≤1099511627776) (h2:0≤n):XTime (putX X t n):=by
  intro y hy
  rcases ins_of2 hy with rfl | hy
  · exact ⟨h1,h2⟩
  · exact h y hy
theorem put_len (X:XM) (t n:Int):(putX X t n).L.length≤X.L.length+1:=by
  unfold putX
  simp only
  by_cases hm:(t,n)∈X.L
  · rw [ins_mem hm];omega
  · rw [ins_len hm];omega
theorem XOk.mono {c d:Nat}{X:XM}(h:XOk c X) (hd:c≤d):XOk d X:=⟨h.time,h.inv,by have:=h.len;omega⟩
theorem XOk.add {c:Nat}{X:XM}(h:XOk c X) (hc:c≤1000) (k:KY):XOk (c+1) (addX X k):=by
  unfold addX
  split
  · exact h.mono (by omega)
  split
  · exact h.mono (by omega)
  rename_i h1 h2
  have:=h.len
  exact ⟨h.time.put (by omega) (by omega),(rinv_put h.inv (by omega) (by omega) (by omega)).1,by have:=put_len X k.1 k.2;omega⟩
theorem time_of {r:RE}(h:checkR r=0):0≤r.time∧r.time≤1099511627776:=by
  unfold checkR at h
  split at h
  · cases h
  split at h
  · cases h
  split at h
  · cases h
  rename_i h2
  have:withinB r.time 0 1099511627776=true:=by simpa using h2
  unfold withinB at this
  simp only [Bool.and_eq_true,decide_eq_true_eq] at this
  omega
theorem openTo_time (l:LM) (h0:0≤l.lo):∀ k:Nat,XTime (openTo l k)
  | 0=>fun y hy=>by simp [openTo] at hy
  | k+1=>by
    rw [openTo_succ]
    unfold stepX
    split
    · rename_i hz
      exact (openTo_time l h0 k).put (time_of (getM_check hz)) (by omega)
    · exact openTo_time l h0 k
theorem openX_ok {m:DM}{l:LM}(h:Ldev m l) (hd:m.down=false) (hr:m.room≤65536):XOk 0 (openX l):=by
  have h1:=h.few hd
  have h2:=h.log.lo
  refine ⟨openTo_time l h2.1 _,(openTo_rinv l h2.1 _ (by omega)).1,?_⟩
  have:=openTo_len l (l.next - l.lo).toNat
  unfold openX
  omega
end Go.Cx
