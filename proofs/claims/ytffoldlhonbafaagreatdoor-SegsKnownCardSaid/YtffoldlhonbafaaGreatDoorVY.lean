/-
  The document's index: a list in order; what lies in a span.
  The document's index: an entry put into its place; Add.
  The document's record: a number in eight bytes; how long a record is.
  A record that is read, by its length.
  The document's record: Get.
  The document's index is opened; a store of the document's.
  The document's log opened on any device.
  The document's log read segment by segment; opened.
  The document's log opened on any device.
-/
import Derived.Test.YtffoldlhonbafaaGreatDoorVX
import Derived.Test.YtffoldlhonbafaaGreatDoorT1
import Derived.Test.YtffoldlhonbafaaGreatDoorHY
namespace Go.Cx
open Go Go.Cf
set_option linter.unusedVariables false
set_option maxRecDepth 100000
variable {B:Base}{As F:List HP}{α:Type}
end Go.Cx
namespace Go.Cx
open Go Go.Cf
set_option linter.unusedVariables false
set_option maxRecDepth 100000
variable {B:Base}{As F:List HP}{α:Type}
end Go.Cx
namespace Go.Cx
open Go Go.Cf
set_option linter.unusedVariables false
set_option maxRecDepth 100000
variable {B:Base}{As F:List HP}{α:Type}
end Go.Cx
namespace Go.Cx
open Go Go.Cf
set_option linter.unusedVariables false
set_option maxRecDepth 100000
variable {B:Base}{As F:List HP}{α:Type}
end Go.Cx
namespace Go.Cx
open Go Go.Cf
set_option linter.unusedVariables false
set_option maxRecDepth 100000
variable {B:Base}{As F:List HP}{α:Type}
end Go.Cx
namespace Go.Cx
open Go Go.Cf
set_option linter.unusedVariables false
set_option maxRecDepth 100000
variable {B:Base}{As F:List HP}{α:Type}
theorem rNext14_spec (q p:Option Addr) (l:LM):Ct Pr F_ref14_Log_Next [.pointer q] .one [.int .i64] [RLogObj q p l] emp (fun t Bs=>t.1=l.next∧Bs=[RLogObj q p l]):=by
  refine spec1 (φ:=XCall Pr F_ref14_Log_Next [.pointer q] .one [.int .i64]) id fun B _=>?_
  refine xrlog 0 fun hi b n s cs hq hn hf hs=>?_
  subst hq
  refine xcl (rNext_raw b p n l s cs hs hf hi) rdb ?_
  rintro ⟨t,_⟩ _ ⟨ht,rfl⟩
  simp only at ht;subst ht
  refine app2 (ca1 ?_)
  refine xrlog_back (p:=p) (l:=l) b n s cs hi hn ?_
  exact xuse [RLogObj (some ⟨b,0,none⟩) p l] (xret ⟨rfl,rfl⟩)
theorem xrlo {q p:Option Addr}{l:LM}{F:List HP}{K:Int→WP}(h:Ent B (RLogObj q p l::F) (K l.lo)):Ent B (RLogObj q p l::F) (XNil q fun a=>XGet (.int .i64) (a.add 2) K):=by
  refine xrlog 0 fun hi b n s cs hq hn hf hs=>?_
  subst hq
  refine xnil (xget (h:=?_))
  exact xrlog_back (p:=p) (l:=l) b n s cs hi hn h
theorem xroff {p:Option Addr}{m:DM}{F:List HP}{K:Bool→WP}(h:Ent B (RefDev p m::F) (K m.down)):Ent B (RefDev p m::F) (XNil p fun a=>XGet .bool (a.add 2) K):=by
  refine xrdev 0 fun hi b s cs hp sf hn=>?_
  subst hp
  refine xnil (xget (h:=?_))
  exact xrdev_back b s cs hi h
end Go.Cx
namespace Go.Cx
open Go Go.Cf
set_option linter.unusedVariables false
set_option maxRecDepth 100000
variable {B:Base}{As F:List HP}{α:Type}
theorem xsub {s:ByteArray}{l h:Int}{K:ByteArray→WP}(h0:0≤l) (h1:l≤h) (h2:h≤s.size) (k:Ent B As (K (s.extract l.toNat h.toNat))):Ent B As (XSub s l h K):=fun w hw=>⟨h0,h1,h2,k w hw⟩
theorem rIsFile_spec (nm:ByteArray) (hs:nm.size≤1000000):Ct Pr F_ref14_IsFile [.string nm] .one [.bool] [] emp (fun t Bs=>t.1=isFileB nm.data.toList∧Bs=[]):=by
  refine spec1 c_ref14_IsFile fun B _=>?_
  have hsz:nm.data.toList.length=nm.size:=by rw [Array.length_toList];rfl
  generalize hl:nm.data.toList=l at *
  have hget:∀ k,k<l.length→∃ y:UInt8,l[k]? = some y:=fun k hk=>⟨_,List.getElem?_eq_getElem hk⟩
  unfold ref14_IsFile
  have hdef:isFileB l=(decide (5≤l.length)&&decide (l.length≤16)&&(l.take 4 == preL) && !(l[4]? == some 48)&&(l.drop 4).all isDig):=rfl
  refine xjoin1 (fun(c:Bool) As'=>c = !(decide (5≤l.length)&&decide (l.length≤16)&&(l.take 4 == preL))∧As'=[]) (fun K hK=>xif (fun h=>hK _ _ ⟨?_,rfl⟩) (fun h=>?_)) ?_
  · simp only [Bool.or_eq_true,decide_eq_true_eq] at h
    have:(decide (5≤l.length)&&decide (l.length≤16))=false:=by rw [Bool.eq_false_iff];simp;omega
    rw [this];rfl
  · simp only [Bool.or_eq_false_iff,decide_eq_false_iff_not] at h
    have:(decide (5≤l.length)&&decide (l.length≤16))=true:=by simp;omega
    refine xsub (by decide) (by decide) (by omega) (hK _ _ ⟨?_,rfl⟩)
    rw [this,Bool.true_and,ByteArray.toList_eq,ByteArray.toList_eq]
    congr 2
    show (nm.extract 0 4).data.toList=_
    rw [ByteArray.data_extract,Array.toList_extract,hl]
    simp
  rintro c _ ⟨rfl,rfl⟩
  refine xjoin1 (fun(c:Bool) As'=>c = !(decide (5≤l.length)&&decide (l.length≤16)&&(l.take 4 == preL) && !(l[4]? == some 48))∧As'=[]) (fun K hK=>xif (fun h=>hK _ _ ⟨?_,rfl⟩) (fun h=>?_)) ?_
  · simp only [Bool.not_eq_true'] at h
    rw [h];rfl
  · simp only [Bool.not_eq_false'] at h
    have h':=h
    simp only [Bool.and_eq_true,decide_eq_true_eq] at h'
    obtain ⟨y,hy⟩:=hget 4 (by omega)
    refine xbyte (k:=4) rfl (by rw [hl];exact hy) (hK _ _ ⟨?_,rfl⟩)
    rw [h,hy,Bool.true_and,Bool.not_not,Bool.eq_iff_iff]
    simp only [beq_iff_eq,Option.some.injEq]
    constructor
    · intro h2
      exact UInt8.toNat_inj.1 (by show y.toNat=48;omega)
    · rintro rfl;rfl
  rintro c _ ⟨rfl,rfl⟩
  refine xif (fun h=>?_) (fun h=>?_)
  · simp only [Bool.not_eq_true'] at h
    rw [hdef,h];exact xret ⟨rfl,rfl⟩
  simp only [Bool.not_eq_false'] at h
  rw [hdef,h,Bool.true_and]
  simp only [Bool.and_eq_true,decide_eq_true_eq] at h
  refine xloop1 (fun n (i:Int) As'=>∃ k:Nat,i=(k:Int)∧4≤k∧n=l.length - k∧k≤l.length∧(l.drop 4).all isDig=(l.drop k).all isDig∧As'=[]) (l.length - 4) ⟨4,rfl,by omega,rfl,by omega,rfl,rfl⟩ ?_
  rintro n _ _ K ⟨k,rfl,hk4,rfl,hk,he,rfl⟩ hK
  refine xif_dec (fun h2=>?_) (fun h2=>?_)
  · have hkl:k<l.length:=by omega
    obtain ⟨y,hy⟩:=hget k hkl
    have hdrop:l.drop k=y::l.drop (k+1):=by rw [List.drop_eq_getElem_cons hkl];congr 1;exact (List.getElem?_eq_some_iff.1 hy).2
    rw [hdrop,List.all_cons] at he
    refine xbyte (k:=k) rfl (by rw [hl];exact hy) ?_
    refine xjoin1 (fun(c:Bool) As'=>c = !(isDig y)∧As'=[]) (fun K1 hK1=>xif_dec (fun h3=>hK1 _ _ ⟨?_,rfl⟩) (fun h3=>xbyte (k:=k) rfl (by rw [hl];exact hy) (hK1 _ _ ⟨?_,rfl⟩))) ?_
    · unfold isDig;rw [Bool.eq_iff_iff];simp [UInt8.le_iff_toNat_le];omega
    · unfold isDig;rw [Bool.eq_iff_iff];simp [UInt8.le_iff_toNat_le];omega
    rintro c _ ⟨rfl,rfl⟩
    refine xif (fun h4=>?_) (fun h4=>?_)
    · rw [he,show isDig y=false by simpa using h4];exact xret ⟨rfl,rfl⟩
    · rw [show isDig y=true by simpa using h4,Bool.true_and] at he
      rw [wrap_succ k (by omega)]
      exact hK (l.length - (k+1)) _ _ (by omega) ⟨k+1,rfl,by omega,rfl,by omega,he,rfl⟩
  · have:l.drop k=[]:=List.drop_eq_nil_of_le (by omega)
    rw [this] at he
    rw [he];exact xret ⟨rfl,rfl⟩
theorem read_there (m:DM) (nm:ByteArray):(readM m nm).2≠0↔thereL m.fs nm.toList=false:=by
  unfold readM
  cases h:thereL m.fs nm.toList with
  | true=>simp
  | false=>simp
theorem rHead_spec (p:Option Addr) (m:DM):Ct Pr F_ref14_Head [.pointer p] (.tup [none,none,none]) [.int .i64,.int .i64,.int .i64] [RefDev p m] emp
    (fun t Bs=>t.1=(headM m).1∧t.2.1=(headM m).2.1∧t.2.2.1=(headM m).2.2∧Bs=[RefDev p m]):=by
  refine spec3 c_ref14_Head fun B _=>?_
  unfold ref14_Head
  refine xfact 0 (P1:=RefDev p m) (fun g hg=>hg.1) fun hI=>?_
  have hlen:=read_len hI headN
  refine xcl (rFind_spec p m headN) rdb ?_
  rintro ⟨t,_⟩ _ ⟨ht,rfl⟩
  simp only at ht;subst ht
  unfold headM
  refine app1 (ca1 (xif (fun h=>?_) (fun h=>?_)))
  · rw [fIdx_neg] at h
    rw [if_pos ((read_there m headN).2 (by simpa using h))]
    exact xuse [RefDev p m] (xret ⟨rfl,rfl,rfl,rfl⟩)
  rw [fIdx_neg] at h
  rw [if_neg (fun e=>by have:=(read_there m headN).1 e;rw [this] at h;cases h)]
  refine xcl (rRead_spec p m headN) rdb ?_
  rintro ⟨s,r,_⟩ _ ⟨hr,rfl⟩
  simp only at hr;subst hr
  refine app2 (ca2 ?_)
  refine xlen s fun hsl hsc=>?_
  replace hsl:(readM m headN).1.length=s.n:=hsl
  refine xcl (pre:=[]) (rGet13_spec s (readM m headN).1 (by omega) hsc) rdb ?_
  rintro ⟨s1,r1,r2,_⟩ _ ⟨h1,h2,rfl⟩
  simp only at h1 h2;subst h1 h2
  generalize hx:(readM m headN).1=xs at *
  generalize hg:getN xs=gx at *
  obtain ⟨pl,u,e⟩:=gx
  refine app1 (ca3 ?_)
  refine xlen s1 fun hl1 hc1=>?_
  replace hl1:pl.length=s1.n:=hl1
  replace hsl:xs.length=s.n:=hsl
  have hcond:(((e != 0)||(((u:Nat):Int) != (s.n:Int)))||(((s1.n:Int)) != 16))=decide (e≠0∨u≠xs.length∨pl.length≠16):=by
    rw [Bool.eq_iff_iff]
    simp only [Bool.or_eq_true,bne_iff_ne,ne_eq,decide_eq_true_eq]
    omega
  simp only
  rw [hcond]
  refine xif_dec (fun h3=>?_) (fun h3=>?_)
  · rw [if_pos h3]
    exact xuse [RefDev p m] (xret ⟨rfl,rfl,rfl,rfl⟩)
  rw [if_neg h3]
  have hp16:pl.length=16:=by
    by_cases e:pl.length=16
    · exact e
    · exact absurd (.inr (.inr e)) h3
  rw [show (0:Int)=((0:Nat):Int) from rfl]
  refine xcl (pre:=[]) (rGet02_spec s1 pl 0 (by omega) (by omega)) rdb ?_
  rintro ⟨x,_,_⟩ _ ⟨hx1,_,rfl⟩
  simp only at hx1;subst hx1
  refine app0 (ca2 ?_)
  rw [show (8:Int)=((8:Nat):Int) from rfl]
  refine xcl (pre:=[]) (rGet02_spec s1 pl 8 (by omega) (by omega)) rdb ?_
  rintro ⟨y,_,_⟩ _ ⟨hy1,_,rfl⟩
  simp only at hy1;subst hy1
  refine app0 (ca2 ?_)
  have hcond2:(((decide (((beV (cut8 pl 0):Nat):Int)<1))||(decide (((beV (cut8 pl 0):Nat):Int)>999999999999)))||(decide (((beV (cut8 pl 8):Nat):Int)>1099511627776)))=decide (beV (cut8 pl 0)<1∨beV (cut8 pl 0)>999999999999∨beV (cut8 pl 8)>1099511627776):=by
    rw [Bool.eq_iff_iff]
    simp only [Bool.or_eq_true,decide_eq_true_eq];omega
  rw [hcond2]
  refine xif_dec (fun h4=>?_) (fun h4=>?_)
  · rw [if_pos h4]
    exact xuse [RefDev p m] (xret ⟨rfl,rfl,rfl,rfl⟩)
  rw [if_neg h4,wrap_id _ (by omega) (by omega),wrap_id _ (by omega) (by omega)]
  exact xuse [RefDev p m] (xret ⟨rfl,rfl,rfl,rfl⟩)
end Go.Cx
namespace Go.Cx
open Go Go.Cf
set_option linter.unusedVariables false
set_option maxRecDepth 100000
variable {B:Base}{As F:List HP}{α:Type}
theorem drop_code {m:DM}{nm:ByteArray}(h:(dropM m nm).2≠0):(dropM m nm).2=10:=by
  cases hd:m.down with
  | true=>
    have:removeM m nm=(m,10):=by unfold removeM;exact on_down hd _ _
    unfold dropM;rw [this];rfl
  | false=>
    cases ht:thereL m.fs nm.toList with
    | true=>
      rw [drop_there hd ht] at h ⊢
      unfold removeM onFile at h ⊢
      rw [if_neg (by rw [hd];decide),if_neg (by rw [ht];decide)] at h ⊢
      rcases spent_code (m:=m) (g:=fun m'=>{ m' with fs:=m'.fs.eraseIdx (findL m.fs nm.toList) }) with e | e
      · exact absurd e h
      · exact e
    | false=>rw [drop_none hd ht] at h;exact absurd rfl h
theorem drop_alive {m:DM}{nm:ByteArray}(hI:DInv m) (hd:m.down=false) (h:(dropM m nm).2=0):(dropM m nm).1.down=false:=by
  cases ht:thereL m.fs nm.toList with
  | true=>
    rw [drop_there hd ht] at h ⊢
    rw [getF_there hI.sorted] at ht
    obtain ⟨f,hf⟩:=Option.isSome_iff_exists.1 ht
    rcases remove_or hI hd hf with e | e
    · rw [e.2] at h;cases h
    · rw [e.down,hd]
  | false=>rw [drop_none hd ht];exact hd
theorem mend_alive {m:DM}(hI:DInv m) (hd:m.down=false) {n:Int}(ht:thereL m.fs (fN n).toList=true) (h:(mendM m n).2=0):(mendM m n).1.down=false:=by
  have hs:=ht
  rw [getF_there hI.sorted] at hs
  obtain ⟨f,hf⟩:=Option.isSome_iff_exists.1 hs
  have hu:=scan_len (readM m (fN n)).1
  have hr:=read_some hI hf
  unfold mendM at h ⊢
  simp only at h ⊢
  by_cases hc:(scanN (readM m (fN n)).1).2<(readM m (fN n)).1.length
  · rw [if_pos hc] at h ⊢
    have hfl:(readM m (fN n)).1=f.b:=by rw [hr]
    rw [hfl] at h ⊢ hu hc
    rcases trunc_or hI hd hf (n:=((scanN f.b).2:Int)) (by omega) (by omega) with e | e
    · rw [e.2] at h;simp at h
    · rw [if_neg (by rw [e.err];decide)] at h ⊢
      have hI2:=trunc_inv hI (fN n) ((scanN f.b).2:Int)
      have hd2:=e.down
      rw [hd] at hd2
      have hg:(getF (truncM m (fN n) ((scanN f.b).2:Int)).1.fs (fN n).toList).isSome=true:=by
        obtain ⟨h1,h2⟩:=getF_at hI.sorted hf
        rw [e.files,getF_set hI.sorted h2 (g:={ f with b:=f.b.take ((scanN f.b).2:Int).toNat,sy:=if ((scanN f.b).2:Int)<f.sy then ((scanN f.b).2:Int) else f.sy }) rfl,if_pos (getF_key hf).symm];rfl
      obtain ⟨f2,hf2⟩:=Option.isSome_iff_exists.1 hg
      rcases sync_or hI2 hd2 hf2 with e2 | e2
      · rw [e2.2] at h;cases h
      · rw [e2.down,hd2]
  · rw [if_neg hc,if_neg (by simp)] at h ⊢
    simp only at h ⊢
    rcases sync_or hI hd hf with e2 | e2
    · rw [e2.2] at h;cases h
    · rw [e2.down,hd]
def rreadPost (b:Nat) (p:Option Addr) (m1:DM) (n0 f0:Int):Tup [.int .i64]→List HP→Prop:=fun t Bs=>
  ∃ m' l',readL 70 m1 n0 ⟨n0,f0,[],0⟩=(m',l',t.1)∧((t.1≠0∧Bs=[RefDev p m'])∨(t.1=0∧ReadI n0 f0 m' l'∧m'.down=false∧l'.lo=f0∧∃ s cs,s.n=cs.length∧RF cs l'.segs∧Bs=[Blk b (rlogCells p n0 f0 0 s),Ar RSG s cs,Each RSegR cs l'.segs,RefDev p m']))
theorem rread_spec (b:Nat) (p:Option Addr) (m1:DM) (n0 f0:Int) (hd:m1.down=false) (hI:DInv m1) (hb1:1≤n0∧n0≤999999999999) (hb2:0≤f0∧f0≤1099511627776) :
    Ct Pr F_ref14_Log_read [.pointer (some ⟨b,0,none⟩)] .one [.int .i64] [Blk b (rlogCells p n0 f0 0 ⟨none,0,0⟩),RefDev p m1] emp (rreadPost b p m1 n0 f0):=by
  refine spec1 c_ref14_Log_read fun B _=>?_
  unfold ref14_Log_read
  refine xnone RSG ?_
  refine xadd (A:=Each RSegR [] []) trivial ?_
  have hstart:=ReadI.start (n0:=n0) hI hb2
  generalize hR0:readL 70 m1 n0 ⟨n0,f0,[],0⟩=R0
  have fin:∀ {As:List HP}{e:Int},(∀ t:Tup [.int .i64],t.1=e→True)→True:=fun _=>trivial
  refine xuse [Blk b (rlogCells p n0 f0 0 ⟨none,0,0⟩),Ar RSG ⟨none,0,0⟩ [],Each RSegR [] [],RefDev p m1] ?_
  refine xloop0 (fun fuel As'=>∃ (m':DM) (l':LM) (s:Sl) (cs:List CR),fuel+l'.segs.length=70∧R0=readL fuel m' (n0+l'.segs.length) l'∧ReadI n0 f0 m' l'∧m'.down=false∧l'.lo=f0∧s.n=cs.length∧RF cs l'.segs∧As'=[Blk b (rlogCells p n0 f0 0 s),Ar RSG s cs,Each RSegR cs l'.segs,RefDev p m']) 70 ⟨m1,⟨n0,f0,[],0⟩,⟨none,0,0⟩,[],rfl,by simpa using hR0.symm,hstart,hd,rfl,rfl,⟨rfl,fun i c s h=>by simp at h⟩,rfl⟩ ?_
  rintro fuel _ K2 ⟨m',l',s,cs,hfu,heq,hR,hdn,hlo,hsn,hrf,rfl⟩ hK2
  have hfew:=hR.few hb1.1
  obtain ⟨fuel,rfl⟩:∃ k,fuel=k+1:=⟨fuel - 1,by omega⟩
  have hcl:=hrf.len
  have hlen:=read_len hR.inv (fN (n0+l'.segs.length))
  refine xdraw (xnil (xget (h:=xnil (xget (h:=?_)))))
  rw [wrap_id (n0+(s.n:Int)) (by omega) (by omega),show n0+(s.n:Int)=n0+(l'.segs.length:Int) by omega]
  refine xname (by omega) (by omega) (xnil (xget (h:=?_)))
  refine xcl (rFind_spec p m' (fN (n0+l'.segs.length))) rdb ?_
  rintro ⟨t,_⟩ _ ⟨ht,rfl⟩
  simp only at ht;subst ht
  rw [readL] at heq
  refine app1 (ca1 (xif (fun h4=>?_) (fun h4=>?_)))
  · rw [fIdx_neg] at h4
    rw [if_pos ((read_there m' _).2 (by simpa using h4))] at heq
    refine xuse [Blk b (rlogCells p n0 f0 0 s),Ar RSG s cs,Each RSegR cs l'.segs,RefDev p m'] (xret ⟨m',l',hR0.trans heq,.inr ⟨rfl,hR,hdn,hlo,s,cs,hsn,hrf,rfl⟩⟩)
  rw [fIdx_neg] at h4
  have hth:thereL m'.fs (fN (n0+l'.segs.length)).toList=true:=by simpa using h4
  have hnr:¬ (readM m' (fN (n0+l'.segs.length))).2≠0:=fun e=>by have:=(read_there m' _).1 e;rw [this] at hth;cases hth
  rw [if_neg hnr] at heq
  have hmore:=hR.more hb1.1 (by simpa using hnr)
  have halive:=mend_alive hR.inv hdn hth
  refine xnil (xget (h:=?_))
  refine xcl (rRead_spec p m' (fN (n0+l'.segs.length))) rdb ?_
  rintro ⟨s1,r,_⟩ _ ⟨_,rfl⟩
  refine app2 (ca2 ?_)
  refine xlen s1 fun hsl hsc=>?_
  replace hsl:(readM m' (fN (n0+l'.segs.length))).1.length=s1.n:=hsl
  refine xcl (pre:=[]) (rScan_spec s1 (readM m' (fN (n0+l'.segs.length))).1 hlen hsc) rdb ?_
  rintro ⟨s2,r1,_⟩ _ ⟨h5,rs,rfl⟩
  simp only at h5;subst h5
  have hsu:=scan_len (readM m' (fN (n0+l'.segs.length))).1
  have hme:mendM m' (n0+l'.segs.length)=(let t:=if (scanN (readM m' (fN (n0+l'.segs.length))).1).2<(readM m' (fN (n0+l'.segs.length))).1.length then truncM m' (fN (n0+l'.segs.length)) (scanN (readM m' (fN (n0+l'.segs.length))).1).2 else (m',0);if t.2≠0 then t else syncM t.1 (fN (n0+l'.segs.length))):=rfl
  generalize hbs:(readM m' (fN (n0+l'.segs.length))).1=bs at *
  generalize hrows:(scanN bs).1=rows at *
  generalize hu:(scanN bs).2=u at *
  simp only [hrows,hu] at heq
  simp only at hme
  refine app2 (ca2 ?_)
  refine xjoin0 (fun As'=>∃ m2:DM,mendM m' (n0+l'.segs.length)=syncM m2 (fN (n0+l'.segs.length))∧As'=[Blk b (rlogCells p n0 f0 0 s),Ar RSG s cs,Each RSegR cs l'.segs,RefDev p m2,Ar SL s2 rs,Each (Ar U8) rs rows]) (fun K3 hK3=>?_) ?_
  · refine xif_dec (fun h5=>?_) (fun h5=>?_)
    · replace h5:u<bs.length:=by omega
      rw [if_pos h5] at hme
      refine xnil (xget (h:=?_))
      refine xcl (rTruncate_spec p m' (fN (n0+l'.segs.length)) (u:Int)) rdb ?_
      rintro ⟨t,_⟩ _ ⟨ht,rfl⟩
      simp only at ht;subst ht
      refine app1 (ca1 (xif (fun h6=>?_) (fun h6=>?_)))
      · have h6:(truncM m' (fN (n0+l'.segs.length)) (u:Int)).2≠0:=by simpa using h6
        rw [if_pos h6] at hme
        rw [hme,if_pos h6] at heq
        exact xuse [RefDev p (truncM m' (fN (n0+l'.segs.length)) (u:Int)).1] (xret ⟨_,_,hR0.trans heq,.inl ⟨h6,rfl⟩⟩)
      · have h6:¬ (truncM m' (fN (n0+l'.segs.length)) (u:Int)).2≠0:=by simpa using h6
        rw [if_neg h6] at hme
        exact xuse [Blk b (rlogCells p n0 f0 0 s),Ar RSG s cs,Each RSegR cs l'.segs,RefDev p (truncM m' (fN (n0+l'.segs.length)) (u:Int)).1,Ar SL s2 rs,Each (Ar U8) rs rows] (hK3 _ ⟨_,hme,rfl⟩)
    · replace h5:¬ u<bs.length:=by omega
      rw [if_neg h5] at hme
      rw [if_neg (by simp)] at hme
      exact xuse [Blk b (rlogCells p n0 f0 0 s),Ar RSG s cs,Each RSegR cs l'.segs,RefDev p m',Ar SL s2 rs,Each (Ar U8) rs rows] (hK3 _ ⟨_,hme,rfl⟩)
  rintro As2 ⟨m2,hm2,rfl⟩
  rw [hm2] at heq hmore halive
  refine xnil (xget (h:=?_))
  refine xcl (rSync_spec p m2 (fN (n0+l'.segs.length))) rdb ?_
  rintro ⟨t,_⟩ _ ⟨ht,rfl⟩
  simp only at ht;subst ht
  refine app1 (ca1 (xif (fun h6=>?_) (fun h6=>?_)))
  · have h6:(syncM m2 (fN (n0+l'.segs.length))).2≠0:=by simpa using h6
    rw [if_pos h6] at heq
    exact xuse [RefDev p (syncM m2 (fN (n0+l'.segs.length))).1] (xret ⟨_,_,hR0.trans heq,.inl ⟨h6,rfl⟩⟩)
  have h6:¬ (syncM m2 (fN (n0+l'.segs.length))).2≠0:=by simpa using h6
  have hd3:=halive (by simpa using h6)
  rw [if_neg h6] at heq
  generalize (syncM m2 (fN (n0+l'.segs.length))).1=m3 at *
  refine xdraw (xnil (xget (h:=xnil (xget (h:=xnil (xget (h:=?_)))))))
  rw [wrap_id (n0+(s.n:Int)) (by omega) (by omega),show n0+(s.n:Int)=n0+(l'.segs.length:Int) by omega]
  refine xnew fun b1=>?_
  refine xapp1 (E:=RSG) ((n0+l'.segs.length,(u:Int),s2):CR) (hb:=by omega) (h:=fun s5=>xnil (xset (h:=?_)))
  generalize hL:({ l' with segs:=l'.segs++[⟨n0+l'.segs.length,l'.next,(u:Int),rows⟩] }:LM)=L at *
  have hLs:L.segs=l'.segs++[⟨n0+l'.segs.length,l'.next,(u:Int),rows⟩]:=by rw [←hL]
  have hLlo:L.lo=f0:=by
    unfold LM.lo at hlo ⊢
    rw [hLs]
    cases e:l'.segs with
    | nil=>
      rw [e] at hlo
      show l'.next=f0
      unfold LM.next LM.cur
      rw [e];exact hlo
    | cons a r=>rw [e] at hlo;exact hlo
  refine xfold [Ar SL s2 rs,Each (Ar U8) rs rows] (RSegR (n0+l'.segs.length,(u:Int),s2) ⟨n0+l'.segs.length,l'.next,(u:Int),rows⟩) (fun g hg=>⟨rfl,rfl,rs,hg⟩) ?_
  refine xfold [Each RSegR cs l'.segs,RSegR (n0+l'.segs.length,(u:Int),s2) ⟨n0+l'.segs.length,l'.next,(u:Int),rows⟩] (Each RSegR (cs++[(n0+l'.segs.length,(u:Int),s2)]) L.segs) (fun g hg=>by rw [hLs];exact each_snoc hg) ?_
  refine xuse [Blk b (rlogCells p n0 f0 0 s5),Ar RSG s5 (cs++[(n0+l'.segs.length,(u:Int),s2)]),Each RSegR (cs++[(n0+l'.segs.length,(u:Int),s2)]) L.segs,RefDev p m3] ?_
  refine xlen (E:=RSG) s5 fun hs5 _=>?_
  refine xfact 2 (P1:=Each RSegR (cs++[(n0+l'.segs.length,(u:Int),s2)]) L.segs) (p':=RF (cs++[(n0+l'.segs.length,(u:Int),s2)]) L.segs) (fun g hg=>rf_of hg) fun hrf2=>?_
  refine xif_dec (fun h7=>?_) (fun h7=>?_)
  · replace h7:u<bs.length:=by omega
    rw [if_pos h7] at heq
    exact xret ⟨m3,L,hR0.trans heq,.inr ⟨rfl,hmore,hd3,hLlo,s5,_,hs5.symm,hrf2,rfl⟩⟩
  · replace h7:¬ u<bs.length:=by omega
    rw [if_neg h7] at heq
    have hLl:L.segs.length=l'.segs.length+1:=by rw [hLs];simp
    exact hK2 fuel _ (by omega) ⟨m3,L,s5,_,by omega,by rw [heq,hLl];congr 1;omega,hmore,hd3,hLlo,hs5.symm,hrf2,rfl⟩
end Go.Cx
namespace Go.Cx
open Go Go.Cf
set_option linter.unusedVariables false
set_option maxRecDepth 100000
variable {B:Base}{As F:List HP}{α:Type}
def ropenPost (p:Option Addr) (m:DM):Tup [.ptr,.int .i64]→List HP→Prop:=fun t Bs=>
  (∃ l b,(openM m).2.1=some l∧(openM m).2.2=0∧t.1=some ⟨b,0,none⟩∧t.2.1=0∧Bs=[RLogObj (some ⟨b,0,none⟩) p l,RefDev p (openM m).1]) ∨
  ((openM m).2.1=none∧(openM m).2.2≠0∧t.1=none∧t.2.1=(openM m).2.2∧Bs=[RefDev p (openM m).1])
theorem nms_nodup {fs:List DF}(hs:Sorted fs) {i j:Nat}{a b:ByteArray}(hi:(fs.map (·.nm))[i]? = some a) (hj:(fs.map (·.nm))[j]? = some b) (hne:i≠j):a.toList≠b.toList:=by
  rw [List.getElem?_map] at hi hj
  obtain ⟨f,hf,rfl⟩:=Option.map_eq_some_iff.1 hi
  obtain ⟨g,hg,rfl⟩:=Option.map_eq_some_iff.1 hj
  intro e
  exact hne (key_uniq hs hf hg e)
theorem rOpen14_spec (p:Option Addr) (m:DM):Ct Pr F_ref14_Open [.pointer p] (.tup [none,none]) [.ptr,.int .i64] [RefDev p m] emp (ropenPost p m):=by
  refine spec2 c_ref14_Open fun B _=>?_
  unfold ref14_Open
  refine xfact 0 (P1:=RefDev p m) (fun g hg=>hg.1) fun hI0=>?_
  refine xroff (xif (fun hd=>?_) (fun hd=>?_))
  · have hr:removeM m newN=(m,10):=by unfold removeM;exact on_down hd _ _
    have hdr:dropM m newN=(m,10):=by unfold dropM;rw [hr];rfl
    have e:=open_e1 (m:=m) (by rw [hdr];simp)
    rw [hdr] at e
    exact xret (.inr ⟨by rw [e],by rw [e];simp,rfl,by rw [e],by rw [e]⟩)
  refine xcl (rFind_spec p m newN) rdb ?_
  rintro ⟨t,_⟩ _ ⟨ht,rfl⟩
  simp only at ht;subst ht
  refine app1 (ca1 ?_)
  refine xjoin1 (fun(c:Bool) As'=>(c=true↔(dropM m newN).2≠0)∧As'=[RefDev p (dropM m newN).1]) (fun K1 hK1=>?_) ?_
  · cases ht:thereL m.fs newN.toList with
    | true=>
      refine xift (by rw [fIdx_yes ht];simp) ?_
      refine xcl (rRemove_spec p m newN) rdb ?_
      rintro ⟨t,_⟩ _ ⟨ht2,rfl⟩
      simp only at ht2;subst ht2
      rw [drop_there hd ht] at hK1
      exact app1 (ca1 (hK1 _ _ ⟨by simp,rfl⟩))
    | false=>
      refine xiff (by rw [fIdx_no ht];rfl) ?_
      rw [drop_none hd ht] at hK1
      exact hK1 _ _ ⟨by simp,rfl⟩
  rintro c _ ⟨hc,rfl⟩
  refine xif (fun h=>?_) (fun h=>?_)
  · have h:=hc.1 h
    have e:=open_e1 h
    rw [drop_code h] at e
    exact xret (.inr ⟨by rw [e],by rw [e];simp,rfl,by rw [e],by rw [e]⟩)
  have h1:¬ (dropM m newN).2≠0:=fun e=>by rw [hc.2 e] at h;cases h
  have hd1:=drop_alive hI0 hd (nm:=newN) (by simpa using h1)
  refine xcl (rHead_spec p (dropM m newN).1) rdb ?_
  rintro ⟨t,t1,t2,_⟩ _ ⟨ht,ht1,ht2,rfl⟩
  simp only at ht ht1 ht2;subst ht ht1 ht2
  refine app1 (ca3 (xif (fun h=>?_) (fun h=>?_)))
  · have h:(headM (dropM m newN).1).2.2≠0:=by simpa using h
    have e:=open_e2 h1 h
    exact xret (.inr ⟨by rw [e],by rw [e];exact h,rfl,by rw [e],by rw [e]⟩)
  have h2:¬ (headM (dropM m newN).1).2.2≠0:=by simpa using h
  have he3:=fun {m' l e} h3 he=>open_e3 (m:=m) h1 h2 (m':=m') (l:=l) (e:=e) h3 he
  have he4:=fun {m' l} h3 {w} hw=>open_e4 (m:=m) h1 h2 (m':=m') (l:=l) h3 (w:=w) hw
  have hb:=head_bounds (dropM m newN).1 (by simpa using h2)
  refine xfact 0 (P1:=RefDev p (dropM m newN).1) (fun g hg=>hg.1) fun hI=>?_
  generalize hm1:(dropM m newN).1=m1 at *
  generalize hn0:(headM m1).1=n0 at *
  generalize hf0:(headM m1).2.1=f0 at *
  obtain ⟨hb1,hb2⟩:=hb
  refine xnew fun b=>?_
  refine xcl (rread_spec b p m1 n0 f0 hd1 hI hb1 hb2) rdb ?_
  rintro ⟨e,_⟩ Bs ⟨m',l',heq,hpost⟩
  simp only at heq hpost
  rcases hpost with ⟨he,rfl⟩ | ⟨rfl,hR,hdn,hlo,s,cs,hsn,hrf,rfl⟩
  · have e2:=he3 heq he
    exact app1 (ca1 (xift (by simpa using he) (xret (.inr ⟨by rw [e2],by rw [e2];exact he,rfl,by rw [e2],by rw [e2]⟩))))
  refine app4 (ca1 (xiff rfl ?_))
  have hLI:=hR.linv hb1 hb2
  have hfin:=he4 heq rfl
  have hfew:=hR.few hb1.1
  have hI':=hR.inv
  have hnl:=hI'.len
  have hcl:=hrf.len
  have hnames:∀ nm∈m'.fs.map (·.nm),nm.size≤16:=by
    intro nm hnm
    obtain ⟨f,hf,rfl⟩:=List.mem_map.1 hnm
    have:=hI'.names f hf
    unfold namedB at this
    simp only [Bool.and_eq_true,decide_eq_true_eq] at this
    omega
  refine xcl (rNames_spec p m') rdb ?_
  rintro ⟨s4,_⟩ _ rfl
  refine app2 (ca1 ?_)
  have hnl:(m'.fs.map (·.nm)).length≤64:=by rw [List.length_map];exact hnl
  have hnd:=fun {i j a b} hi hj hne=>nms_nodup hI'.sorted (i:=i) (j:=j) (a:=a) (b:=b) hi hj hne
  have hall:∀ (i:Nat) nm,(m'.fs.map (·.nm))[i]? = some nm→(getF m'.fs nm.toList).isSome=true:=by
    intro i nm h
    rw [List.getElem?_map] at h
    obtain ⟨f,hf,rfl⟩:=Option.map_eq_some_iff.1 h
    rw [(getF_iff hI'.sorted).2 ⟨List.mem_of_getElem? hf,rfl⟩];rfl
  generalize hN:m'.fs.map (·.nm)=nms at *
  refine xlen s4 fun hl4 _=>?_
  replace hl4:nms.length=s4.n:=hl4
  refine xuse [Blk b (rlogCells p n0 f0 0 s),Ar RSG s cs,Each RSegR cs l'.segs,RefDev p m',Ar Cf.ST s4 nms] ?_
  refine xloop1 (fun mm (x:Int) As'=>∃ (k:Nat) (mk:DM),x=(k:Int)∧mm=nms.length - k∧k≤nms.length∧sweepM l' nms m'=sweepM l' (nms.drop k) mk∧DInv mk∧mk.down=false∧(∀ (i:Nat) nm,k≤i→nms[i]? = some nm→(getF mk.fs nm.toList).isSome=true)∧As'=[Blk b (rlogCells p n0 f0 0 s),Ar RSG s cs,Each RSegR cs l'.segs,RefDev p mk,Ar Cf.ST s4 nms]) nms.length ⟨0,m',rfl,rfl,by omega,rfl,hI',hdn,fun i nm _ h=>hall i nm h,rfl⟩ ?_
  rintro mm x As' K ⟨k,mk,rfl,rfl,hk,hsw,hIk,hdk,hallk,rfl⟩ hK
  refine xif_dec (fun hp=>?_) (fun hp=>?_)
  · have hp:k<nms.length:=by omega
    refine xidxn (E:=Cf.ST) (xs:=nms) (s:=s4) (h1:=hp) (h:=fun nm hnm=>?_)
    refine xgetE (E:=Cf.ST) (xs:=nms) hnm (h:=?_)
    have hsz:=hnames nm (List.mem_of_getElem? hnm)
    rw [sweep_step hnm] at hsw
    refine xcall0 (rIsFile_spec nm (by omega)) rdb ?_
    rintro ⟨c,_⟩ _ ⟨hc,rfl⟩
    obtain rfl:c=isFileB nm.data.toList:=hc
    refine app0 (ca1 ?_)
    refine xloop2 (fun n (mine:Bool) (x:Int) As'=>∃ j:Nat,x=(j:Int)∧n=cs.length - j∧j≤cs.length∧mine=(!(isFileB nm.data.toList)||(l'.segs.take j).any fun s=>fK s.n == nm.toList)∧As'=[Blk b (rlogCells p n0 f0 0 s),Ar RSG s cs,Each RSegR cs l'.segs,RefDev p mk,Ar Cf.ST s4 nms]) cs.length ⟨0,rfl,rfl,by omega,by simp,rfl⟩ ?_
    rintro n _ _ _ K2 ⟨j,rfl,rfl,hj,rfl,rfl⟩ hK2
    refine xnil (xget (h:=xif_dec (fun hq=>?_) (fun hq=>?_)))
    · have hj2:j<cs.length:=by omega
      have hc:=List.getElem?_eq_getElem hj2
      have hsg:=List.getElem?_eq_getElem (l:=l'.segs) (i:=j) (by omega)
      obtain ⟨g1,g2,g3,g4⟩:=hrf.each j _ _ hc hsg
      have hbx:=(hLI.segs _ (List.mem_of_getElem? hsg)).1
      have hRs:=(hR.segs j _ hsg).1
      generalize cs[j]=c at *
      generalize hsgE:l'.segs[j]'(by omega)=sg at *
      have hsn2:l'.segs.take (j+1)=l'.segs.take j++[sg]:=by rw [List.take_add_one,hsg];rfl
      refine xdraw (xjoin ?_)
      refine xif (fun hm=>?_) (fun hm=>?_)
      · rw [wrap_succ j (by omega)]
        refine hK2 (cs.length - (j+1)) _ _ _ (by omega) ⟨j+1,rfl,rfl,by omega,?_,rfl⟩
        rw [hsn2,List.any_append,←Bool.or_assoc,hm];rfl
      · refine xidxn (E:=Cf.ST) (xs:=nms) (s:=s4) (h1:=hp) (h:=fun _ _=>?_)
        refine xgetE (E:=Cf.ST) (xs:=nms) hnm (h:=xnil (xget (h:=?_)))
        refine xidxn (E:=RSG) (xs:=cs) (s:=s) (h1:=hj2) (h:=fun _ _=>?_)
        refine xgetE (E:=RSG) (xs:=cs) hc (h:=?_)
        rw [g1]
        refine xname (by omega) (by omega) ?_
        refine xchkE (E:=Cf.ST) (xs:=nms) hnm (h:=?_)
        rw [wrap_succ j (by omega)]
        refine hK2 (cs.length - (j+1)) _ _ _ (by omega) ⟨j+1,rfl,rfl,by omega,?_,rfl⟩
        rw [hsn2,List.any_append,←Bool.or_assoc,hm,Bool.false_or]
        simp only [List.any_cons,List.any_nil,Bool.or_false]
        rw [Bool.eq_iff_iff,beq_iff_eq,beq_iff_eq]
        exact eq_comm
    have hjl:j=l'.segs.length:=by omega
    rw [hjl,List.take_of_length_le (Nat.le_refl _)]
    have hkb:(!(isFileB nm.data.toList)||l'.segs.any fun s=>fK s.n == nm.toList)=keepB l' nm:=rfl
    rw [hkb]
    refine xjoin1 (fun(c:Bool) As'=>∃ mk2:DM,((c=true∧openM m=(mk2,none,10))∨(c=false∧sweepM l' nms m'=sweepM l' (nms.drop (k+1)) mk2∧DInv mk2∧mk2.down=false∧(∀ (i:Nat) nm,k+1≤i→nms[i]? = some nm→(getF mk2.fs nm.toList).isSome=true)))∧As'=[Blk b (rlogCells p n0 f0 0 s),Ar RSG s cs,Each RSegR cs l'.segs,RefDev p mk2,Ar Cf.ST s4 nms]) (fun K3 hK3=>?_) ?_
    · refine xif (fun hkp=>?_) (fun hkp=>?_)
      · have hkp:¬ keepB l' nm=true:=by simpa using hkp
        rw [if_neg hkp] at hsw
        refine xidxn (E:=Cf.ST) (xs:=nms) (s:=s4) (h1:=hp) (h:=fun _ _=>?_)
        refine xgetE (E:=Cf.ST) (xs:=nms) hnm (h:=?_)
        refine xcl (rRemove_spec p mk nm) rdb ?_
        rintro ⟨t,_⟩ _ ⟨ht,rfl⟩
        simp only at ht;subst ht
        refine app1 (ca1 (xuse [Blk b (rlogCells p n0 f0 0 s),Ar RSG s cs,Each RSegR cs l'.segs,RefDev p (removeM mk nm).1,Ar Cf.ST s4 nms] (hK3 _ _ ⟨_,?_,rfl⟩)))
        obtain ⟨f,hf⟩:=Option.isSome_iff_exists.1 (hallk k nm (Nat.le_refl _) hnm)
        rcases remove_or hIk hdk hf with e | e
        · left
          have h10:(removeM mk nm).2=10:=by rw [e.2]
          rw [if_pos (by rw [h10];decide)] at hsw
          rw [hsw,if_pos (by rw [h10];decide),h10] at hfin
          exact ⟨by rw [h10];rfl,hfin⟩
        · right
          rw [if_neg (by rw [e.err];decide)] at hsw
          refine ⟨by rw [e.err];rfl,hsw,remove_inv hIk nm,by rw [e.down,hdk],fun i nm2 hi h2=>?_⟩
          obtain ⟨q1,q2⟩:=getF_at hIk.sorted hf
          rw [e.files,getF_erase hIk.sorted q2,if_neg ?_]
          · exact hallk i nm2 (by omega) h2
          · have:=hnd h2 hnm (by omega)
            rw [getF_key hf];exact this
      · have hkp:keepB l' nm=true:=by simpa using hkp
        rw [if_pos hkp] at hsw
        exact hK3 _ _ ⟨mk,.inr ⟨rfl,hsw,hIk,hdk,fun i nm2 hi h2=>hallk i nm2 (by omega) h2⟩,rfl⟩
    rintro c _ ⟨mk2,hcc,rfl⟩
    rcases hcc with ⟨rfl,e⟩ | ⟨rfl,hsw2,hI2,hd2,hall2⟩
    · exact xift rfl (xuse [RefDev p mk2] (xret (.inr ⟨by rw [e],by rw [e];simp,rfl,by rw [e],by rw [e]⟩)))
    · refine xiff rfl ?_
      rw [wrap_succ k (by omega)]
      exact hK (nms.length - (k+1)) _ _ (by omega) ⟨k+1,mk2,rfl,rfl,by omega,hsw2,hI2,hd2,hall2,rfl⟩
  · obtain rfl:k=nms.length:=by omega
    rw [List.drop_length] at hsw
    have hsw:sweepM l' nms m'=(mk,0):=hsw
    rw [hsw,if_neg (by simp)] at hfin
    have hsafe:l'.safe=0:=hR.safe
    have hnr:=rNext_raw b p n0 l' s cs hsn hrf hLI
    rw [hlo,hsafe] at hnr
    refine xcl hnr rdb ?_
    rintro ⟨t,_⟩ _ ⟨ht,rfl⟩
    simp only at ht;subst ht
    refine app2 (ca1 (xnil (xset (h:=?_))))
    have hnx:=hLI.next
    have hfo:({ l' with safe:=l'.next }:LM).lo=f0:=hlo
    refine xfold [Blk b (rlogCells p n0 f0 l'.next s),Ar RSG s cs,Each RSegR cs l'.segs] (RLogObj (some ⟨b,0,none⟩) p { l' with safe:=l'.next }) (fun g hg=>⟨⟨hLI.n,hLI.first,hLI.segs,hLI.few,by simp only;omega,hLI.chain⟩,b,n0,s,cs,rfl,fun _=>hR.n.symm,by rw [hfo];exact hg⟩) ?_
    exact xuse [RLogObj (some ⟨b,0,none⟩) p { l' with safe:=l'.next },RefDev p mk] (xret (.inl ⟨_,b,by rw [hfin],by rw [hfin],rfl,rfl,by rw [hfin]⟩))
end Go.Cx
