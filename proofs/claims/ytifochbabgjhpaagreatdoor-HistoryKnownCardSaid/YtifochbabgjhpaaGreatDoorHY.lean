/-
  Records as words.
  A row of words told again.
  Files of records; a store that is laid.
  A store that is laid; what each statement of the history asks.
  A store that is laid; what each statement of the history asks.
  What each statement of the history asks; a row is told as it was.
  The law HistoryBack.
  The document's rows of words.
  The law HistoryWords.
-/
import Derived.Test.YtifochbabgjhpaaGreatDoorR1
import Derived.Test.YtifochbabgjhpaaGreatDoorA4
import Derived.Test.YtifochbabgjhpaaGreatDoorA3
namespace Go.Cx
open Go Go.Cf
set_option linter.unusedVariables false
set_option maxRecDepth 100000
variable {B:Base}{As F:List HP}
def W16:Enc Int:=⟨fun x=>[.int .u16 x],1,fun _=>rfl,fun x v h=>by simp at h;subst h;rfl,by decide,0⟩
theorem packPut_spec (b:Sl) (xs:List UInt8) (v:Nat) (hv:v<18446744073709551616) (hm:xs.length≤1048576):Ct Pr F_pack_Put [b.v,.int .u64 (v:Int),.int .i64 8] (.tup [none,none]) [.slice,.int .i64] [] (RAr U8 b xs)
    (fun t Bs=>t.2.1=0∧Bs=[Ar U8 t.1 (xs++be8 v)]):=by
  refine spec2 c_pack_Put fun B hr=>?_
  have fb:Fro B b U8 xs:=⟨hr⟩
  have hb:=hr.1
  unfold pack_Put
  refine xjoin (xiff rfl (xjoin (xiff rfl (xiff rfl ?_))))
  rw [show IntKind.i64.wrap ((b.n:Int)+8)=((xs.length+8:Nat):Int) by rw [wrap_id _ (by omega) (by omega)];omega]
  refine xmake2 U8 (xs.length+8) (xs.length+8) (by omega) (by omega) (h:=fun b1=>?_)
  rw [Nat.sub_self]
  refine xcopyW (s:=⟨some ⟨b1,0,none⟩,xs.length+8,xs.length+8⟩) (y:=b) (ys:=xs) (fun w hw=>?_) (hl:=by simp) (hn:=by simp) (hc:=Nat.le_refl _) (h:=fun n=>?_)
  · exact RdA.rd w hw
  refine xar ?_
  refine xloop1 (fun n i As=>∃ (k:Nat) (ys:List UInt8),i=(k:Int)∧n=8 - k∧k≤8∧ys.length=xs.length+8∧(∀ j,j<xs.length→ys[j]? = xs[j]?)∧(∀ j,j<k→ys[xs.length+7 - j]? = some (UInt8.ofNat (v / 256 ^ j)))∧As=[Ar U8 ⟨some ⟨b1,0,none⟩,xs.length+8,xs.length+8⟩ ys]) 8 ⟨0,_,rfl,rfl,by omega,by simp,fun j hj=>by rw [List.getElem?_append_left hj],fun j hj=>by omega,rfl⟩ ?_
  rintro n _ _ K ⟨k,ys,rfl,rfl,hk,hl,h1,h2,rfl⟩ hK
  refine xif_dec (fun h=>?_) (fun h=>?_)
  · have hk8:k<8:=by omega
    obtain ⟨e1,e2⟩:=shift_le k hk8
    refine xasrt e2 ?_
    rw [e1,shr_eq v _ (256 ^ k) rfl,byte_of]
    have ei:IntKind.i64.wrap (IntKind.i64.wrap (((xs.length+8:Nat):Int) - 1) - (k:Int))=((xs.length+7 - k:Nat):Int):=by
      rw [wrap_id (((xs.length+8:Nat):Int) - 1) (by omega) (by omega),wrap_id _ (by omega) (by omega)];omega
    rw [ei]
    have hy:=List.getElem?_eq_getElem (l:=ys) (i:=xs.length+7 - k) (by omega)
    refine xidxn (h1:=by omega) (h:=fun _ _=>?_)
    refine xsetE (UInt8.ofNat (v / 256 ^ k)) hy (hv:=rfl) (h:=?_)
    rw [wrap_succ k (by omega)]
    refine hK (8 - (k+1)) _ _ (by omega) ⟨k+1,_,rfl,rfl,by omega,by simpa using hl,fun j hj=>?_,fun j hj=>?_,rfl⟩
    · rw [List.getElem?_set_ne (by omega)];exact h1 j hj
    · rcases Nat.lt_or_ge j k with h3 | h3
      · rw [List.getElem?_set_ne (by omega)];exact h2 j h3
      · obtain rfl:j=k:=by omega
        rw [List.getElem?_set_self (by omega)]
  · have hk8:k=8:=by omega
    subst hk8
    have:ys=xs++be8 v:=by
      refine eq_upto (by rw [List.length_append,be8_len,hl]) (fun j hj=>?_)
      rcases Nat.lt_or_ge j xs.length with h3 | h3
      · rw [h1 j h3,List.getElem?_append_left h3]
      · have h4:j<xs.length+8:=by rw [List.length_append,be8_len] at hj;exact hj
        have:=h2 (xs.length+7 - j) (by omega)
        rw [show xs.length+7 - (xs.length+7 - j)=j by omega] at this
        rw [this,List.getElem?_append_right h3,be8_get v (by omega),show 7 - (j - xs.length)=xs.length+7 - j by omega]
    rw [this]
    exact xret ⟨rfl,rfl⟩
def pairW:List UInt8→List Int
  | a::b::r=>((a.toNat*256+b.toNat:Nat):Int)::pairW r
  | _=>[]
theorem pairW_len:∀ (xs:List UInt8),(pairW xs).length=xs.length / 2
  | []=>rfl
  | [_]=>by simp [pairW]
  | a::b::r=>by
    show (pairW r).length+1=_
    rw [pairW_len r];simp only [List.length_cons];omega
theorem pairW_get:∀ {xs:List UInt8}{i:Nat}{a b:UInt8},xs[2*i]? = some a→xs[2*i+1]? = some b→(pairW xs)[i]? = some ((a.toNat*256+b.toNat:Nat):Int)
  | [],i,a,b,h,_=>by simp at h
  | [_],i,a,b,h1,h2=>by simp at h2
  | x::y::r,0,a,b,h1,h2=>by
    obtain rfl:x=a:=by simpa using h1
    obtain rfl:y=b:=by simpa using h2
    rfl
  | x::y::r,i+1,a,b,h1,h2=>by
    show (pairW r)[i]? = _
    exact pairW_get (by simpa [Nat.mul_add] using h1) (by simpa [Nat.mul_add] using h2)
theorem packWords_spec (b:Sl) (xs:List UInt8) (he:xs.length % 2=0) (hm:xs.length≤1073741824):Ct Pr F_pack_Words [b.v] (.tup [none,none]) [.slice,.int .i64] [] (RAr U8 b xs) (fun t Bs=>t.2.1=0∧Bs=[Ar W16 t.1 (pairW xs)]):=by
  refine spec2 c_pack_Words fun B hr=>?_
  have fb:Fro B b U8 xs:=⟨hr⟩
  have hb:=hr.1
  unfold pack_Words
  have e1:((b.n:Int).tmod 2)=0:=by rw [←hb,Int.tmod_eq_emod_of_nonneg (by omega)];omega
  have e2:IntKind.i64.wrap ((b.n:Int).tdiv 2)=((xs.length / 2:Nat):Int):=by
    rw [←hb,Int.tdiv_eq_ediv_of_nonneg (by omega),wrap_id _ (by omega) (by omega)];omega
  refine xasrt (by decide) (xiff (by rw [e1];rfl) (xasrt (by decide) ?_))
  rw [e2]
  refine xmake W16 (by omega) (by omega) (h:=fun b1=>?_)
  simp only [Int.toNat_natCast]
  refine xloop1 (fun n i As=>∃ (k:Nat) (ys:List Int),i=(k:Int)∧n=xs.length / 2 - k∧k≤xs.length / 2∧ys.length=xs.length / 2∧(∀ j,j<k→ys[j]? = (pairW xs)[j]?)∧As=[Ar W16 ⟨some ⟨b1,0,none⟩,xs.length / 2,xs.length / 2⟩ ys]) (xs.length / 2) ⟨0,_,rfl,rfl,by omega,by simp,fun j hj=>by omega,rfl⟩ ?_
  rintro n _ _ K ⟨k,ys,rfl,rfl,hk,hl,h1,rfl⟩ hK
  refine xif_dec (fun h=>?_) (fun h=>?_)
  · have hlt:k<xs.length / 2:=by omega
    have ha:=List.getElem?_eq_getElem (l:=xs) (i:=2*k) (by omega)
    have hb':=List.getElem?_eq_getElem (l:=xs) (i:=2*k+1) (by omega)
    have i1:IntKind.i64.wrap (2*(k:Int))=((2*k:Nat):Int):=by rw [wrap_id _ (by omega) (by omega)];omega
    rw [i1,wrap_succ (2*k) (by omega)]
    refine xdraw (xidxn (E:=U8) (xs:=xs) (s:=b) (h1:=by omega) (h:=fun _ _=>?_))
    refine xgetE (E:=U8) (xs:=xs) ha (h:=xasrt (by decide) ?_)
    refine xidxn (E:=U8) (xs:=xs) (s:=b) (h1:=by omega) (h:=fun _ _=>?_)
    refine xgetE (E:=U8) (xs:=xs) hb' (h:=?_)
    have hy:=List.getElem?_eq_getElem (l:=ys) (i:=k) (by omega)
    have ev:bits .or .u16 (IntKind.u16.wrap ((IntKind.u16.wrap ((xs[2*k].toNat:Nat):Int))*2 ^ (min (Int.toNat 8) 16))) (IntKind.u16.wrap ((xs[2*k+1].toNat:Nat):Int))=((xs[2*k].toNat*256+xs[2*k+1].toNat:Nat):Int):=by
      have h1:=u8_lt xs[2*k]
      have h2:=u8_lt xs[2*k+1]
      have w16:∀ n:Nat,n<65536→IntKind.u16.wrap (n:Int)=n:=fun n hn=>by
        have q1:(2 ^ IntKind.u16.bits:Int)=65536:=by decide
        have q3:IntKind.u16.signed=false:=rfl
        simp only [IntKind.wrap,q1,q3,Bool.false_and]
        simp;omega
      have e:(2:Int) ^ (min (Int.toNat 8) 16)=256:=by decide
      rw [e,w16 _ (by omega),show ((xs[2*k].toNat:Nat):Int)*256=((xs[2*k].toNat*256:Nat):Int) by omega,w16 _ (by omega),w16 _ (by omega),u16_or_nat _ _ (by omega) (by omega),show xs[2*k].toNat*256=xs[2*k].toNat*2 ^ 8 from rfl,or_add _ _ 8 (by omega)]
    refine xidxn (E:=W16) (xs:=ys) (s:=⟨some ⟨b1,0,none⟩,xs.length / 2,xs.length / 2⟩) (h1:=by omega) (h:=fun _ _=>?_)
    rw [ev]
    refine xsetE (E:=W16) (xs:=ys) ((xs[2*k].toNat*256+xs[2*k+1].toNat:Nat):Int) hy (hv:=rfl) (h:=?_)
    rw [wrap_succ k (by omega)]
    refine hK (xs.length / 2 - (k+1)) _ _ (by omega) ⟨k+1,_,rfl,rfl,by omega,by simpa using hl,fun j hj=>?_,rfl⟩
    rcases Nat.lt_or_ge j k with h3 | h3
    · rw [List.getElem?_set_ne (by omega)];exact h1 j h3
    · obtain rfl:j=k:=by omega
      rw [List.getElem?_set_self (by omega),pairW_get ha hb']
  · have e:ys=pairW xs:=eq_upto (by rw [pairW_len,hl]) fun j hj=>h1 j (by rw [pairW_len] at hj;omega)
    rw [e]
    exact xret ⟨rfl,rfl⟩
theorem Ars.dropc {α:Type}{E:Enc α}{s:Sl}{xs zs:List α}{h:Frag}(ha:Ars E s xs zs h) (l:Nat) (hl:l≤xs.length):Ars E (s.cut l s.n s.c E.sz) (xs.drop l) zs h:=by
  obtain ⟨p,n,c⟩:=s
  obtain ⟨h1,h2,h3⟩:=ha
  simp only at h1 h2 h3
  refine ⟨by simp [Sl.cut];omega,by simp [Sl.cut];omega,?_⟩
  rcases h3 with ⟨h4,h5⟩ | ⟨b,o,pre,post,e,fr,hp,hb,ho,hfr,hM⟩
  · subst h4 h5
    refine .inl ⟨?_,by simp [Sl.cut]⟩
    simp only [Sl.cut];split<;>rfl
  · have e0:pre++flat E (xs++zs)++post=(pre++flat E (xs.take l))++flat E (xs.drop l++zs)++post:=by
      have e1:flat E (xs++zs)=flat E (xs.take l)++flat E (xs.drop l++zs):=by rw [←flat_append,←List.append_assoc,List.take_append_drop]
      rw [e1];simp only [List.append_assoc]
    have hpl:(pre++flat E (xs.take l)).length=o+l*E.sz:=by rw [List.length_append,flat_length,ho,List.length_take,Nat.min_eq_left hl]
    by_cases hc:c=l
    · refine .inr ⟨b,o,pre,flat E xs++post,e,fr,?_,?_,ho,?_,by simp only [Sl.cut];omega⟩
      · simp only [Sl.cut];rw [if_pos hc,hp]
      · have ez:zs=[]:=List.eq_nil_of_length_eq_zero (by omega)
        have ed:xs.drop l=[]:=List.eq_nil_of_length_eq_zero (by simp;omega)
        rw [ed,ez,hb,ez];simp [flat]
      · intro i hi
        refine hfr i ?_
        have ez:zs=[]:=List.eq_nil_of_length_eq_zero (by omega)
        have ed:xs.drop l=[]:=List.eq_nil_of_length_eq_zero (by simp;omega)
        rw [ed,ez] at hi
        rw [ez]
        simpa [flat] using hi
    · refine .inr ⟨b,o+l*E.sz,pre++flat E (xs.take l),post,e,fr,?_,by rw [←e0];exact hb,hpl,by rw [←e0];exact hfr,by simp only [Sl.cut];omega⟩
      simp only [Sl.cut]
      rw [if_neg hc,hp]
      simp [add_none]
def u64N (v:Int):Nat:=(IntKind.u64.wrap v).toNat
theorem u64N_lt (v:Int):u64N v<18446744073709551616∧IntKind.u64.wrap v=(u64N v:Int):=by
  have e1:(2 ^ IntKind.u64.bits:Int)=18446744073709551616:=by decide
  have e3:IntKind.u64.signed=false:=rfl
  have h:0≤IntKind.u64.wrap v∧IntKind.u64.wrap v<18446744073709551616:=by
    simp only [IntKind.wrap,e1,e3,Bool.false_and]
    simp
    omega
  unfold u64N
  omega
def wideM (v:Int) (k:Nat):List Int:=(pairW (be8 (u64N v))).drop (4 - k)
theorem wide_spec (v:Int) (k:Nat) (hk:k≤4):Ct Pr F_history_wide [.int .i64 v,.int .i64 (k:Int)] .one [.slice] [] emp (fun t Bs=>Bs=[Ar W16 t.1 (wideM v k)]):=by
  refine spec1 c_history_wide fun B _=>?_
  obtain ⟨h1,h2⟩:=u64N_lt v
  unfold history_wide
  rw [h2]
  refine xcl (pre:=[]) (packPut_spec ⟨none,0,0⟩ [] (u64N v) h1 (by decide)) (rds_of fun _ _ _ _ _=>⟨rfl,rfl,fun h=>absurd h (Nat.lt_irrefl 0)⟩) ?_
  rintro ⟨s,e,_⟩ _ ⟨_,rfl⟩
  rw [List.nil_append]
  have hbl:=be8_len (u64N v)
  refine app1 (ca2 ?_)
  refine xcl (pre:=[]) (packWords_spec s (be8 (u64N v)) (by rw [hbl]) (by rw [hbl];decide)) rdb ?_
  rintro ⟨s1,e,_⟩ _ ⟨_,rfl⟩
  have hpl:(pairW (be8 (u64N v))).length=4:=by rw [pairW_len,hbl]
  refine app1 (ca2 ?_)
  refine xlen (E:=W16) (xs:=pairW (be8 (u64N v))) s1 fun hn hc=>?_
  simp only
  rw [wrap_id _ (by omega) (by omega),show (s1.n:Int) - (k:Int)=((4 - k:Nat):Int) by omega]
  refine xslc (by omega) (by omega) (by omega) (by omega) ?_
  simp only [Int.toNat_natCast]
  refine xfold1 0 (Q:=Ar W16 (s1.cut (4 - k) s1.n s1.c 1) (wideM v k)) (fun g hg=>?_) (xkeep (l:=[_]) (xret rfl))
  obtain ⟨zs,hz⟩:=hg
  exact ⟨zs,Ars.dropc hz (4 - k) (by omega)⟩
def textB (s:ByteArray):List UInt8:=s.data.toList.take (min s.size 16)++(List.replicate 16 (0:UInt8)).drop (min s.size 16)
theorem textB_len (s:ByteArray):(textB s).length=16:=by
  have:s.data.toList.length=s.size:=by simp
  unfold textB
  rw [List.length_append,List.length_take,List.length_drop,List.length_replicate,this];omega
theorem text_spec (s:ByteArray):Ct Pr F_history_text [.string s] .one [.slice] [] emp (fun t Bs=>Bs=[Ar W16 t.1 (pairW (textB s))]):=by
  refine spec1 c_history_text fun B _=>?_
  unfold history_text
  refine xnew fun b=>?_
  refine xfold1 0 (Q:=Ars U8 ⟨some ⟨b,0,none⟩,16,16⟩ (List.replicate 16 (0:UInt8)) []) (fun g hg=>blk_ar (List.replicate 16 (0:UInt8)) 16 rfl rfl hg) ?_
  refine xcopyS (s:=⟨some ⟨b,0,none⟩,16,16⟩) (textB s) rfl (fun n=>xar ?_)
  have hl:=textB_len s
  refine xcl (pre:=[]) (packWords_spec ⟨some ⟨b,0,none⟩,16,16⟩ (textB s) (by rw [hl]) (by rw [hl];decide)) rdb ?_
  rintro ⟨s1,e,_⟩ _ ⟨_,rfl⟩
  exact app1 (ca2 (xkeep (l:=[_]) (xret rfl)))
def RowsW (s:Sl) (rs:List Sl) (ws:List (List Int)):HP:=fun h=>RAr SL s rs h∧rs.length=ws.length∧∀ (i:Nat) (r:Sl) (x:List Int),rs[i]? = some r→ws[i]? = some x→RAr W16 r x h
theorem joined_spec (p:Sl) (rs:List Sl) (ws:List (List Int)) (hm:ws.flatten.length≤1073741824) (hm2:ws.length≤1073741824):Ct Pr F_history_joined [p.v] .one [.slice] [] (RowsW p rs ws) (fun t Bs=>Bs=[Ar W16 t.1 ws.flatten]):=by
  refine spec1 c_history_joined fun B hr=>?_
  obtain ⟨ha,hl,hrow⟩:=hr
  haveI:Fro B p SL rs:=⟨ha⟩
  have h1:=ha.1
  unfold history_joined
  refine xmake2 W16 0 22 (by decide) (by decide) (h:=fun b=>xar ?_)
  refine xloop2 (fun n (s:Sl) (x:Int) As'=>∃ k:Nat,x=(k:Int)∧n=rs.length - k∧k≤rs.length∧As'=[Ar W16 s (ws.take k).flatten]) rs.length ⟨0,rfl,rfl,by omega,rfl⟩ ?_
  rintro n s _ _ K ⟨k,rfl,rfl,hk,rfl⟩ hK
  refine xif_dec (fun h=>?_) (fun h=>?_)
  · have hlt:k<rs.length:=by omega
    obtain ⟨y,hy⟩:∃ y,ws[k]? = some y:=⟨_,List.getElem?_eq_getElem (by omega)⟩
    refine xidxn (E:=SL) (xs:=rs) (s:=p) (h1:=hlt) (h:=fun r hr=>?_)
    haveI:Fro B r W16 y:=⟨hrow k r y hr hy⟩
    refine xgetE (E:=SL) (xs:=rs) hr (h:=?_)
    have etake:ws.take (k+1)=ws.take k++[y]:=by rw [List.take_add_one,hy];rfl
    have esum:(ws.take k).flatten.length+y.length≤ws.flatten.length:=by
      have:ws.flatten=(ws.take (k+1)).flatten++(ws.drop (k+1)).flatten:=by rw [←List.flatten_append,List.take_append_drop]
      rw [this,etake,List.flatten_append,List.length_append,List.length_append];simp
    refine xapp (E:=W16) (hb:=by omega) (h:=fun s'=>?_)
    rw [wrap_succ k (by omega)]
    refine hK _ _ _ _ (by omega) ⟨k+1,rfl,rfl,by omega,?_⟩
    rw [etake,List.flatten_append];simp
  · rw [List.take_of_length_le (by omega)]
    exact xret rfl
def rowM (seq:Int) (r:RE):List Int:=[wideM r.time 3,wideM seq 3,wideM r.kind 1,wideM r.val 4,wideM r.id 3,pairW (textB r.tag)].flatten
def wordsM (seq:Int) (r:RE):List Int×Int:=if checkR r≠0 then ([],checkR r) else if seq<0∨seq>1099511627776 then ([],3) else (rowM seq r,0)
theorem wideM_len (v:Int) (k:Nat) (hk:k≤4):(wideM v k).length=k:=by
  unfold wideM;rw [List.length_drop,pairW_len,be8_len];omega
theorem rowM_len (seq:Int) (r:RE):(rowM seq r).length=22:=by
  unfold rowM
  simp only [List.flatten_cons,List.flatten_nil,List.length_append,List.length_nil,wideM_len _ 3 (by decide),wideM_len _ 1 (by decide),wideM_len _ 4 (by decide),pairW_len,textB_len]
theorem hWords_spec (seq:Int) (r:RE):Ct Pr F_history_Words [.int .i64 seq,r.v] (.tup [none,none]) [.slice,.int .i64] [] emp (fun t Bs=>t.2.1=(wordsM seq r).2∧Bs=[Ar W16 t.1 (wordsM seq r).1]):=by
  refine spec2 c_history_Words fun B _=>?_
  unfold history_Words
  refine xnew fun b=>?_
  iterate 5 (refine xget (h:=?_))
  refine xcall0 (checkR_spec r) rdb ?_
  rintro ⟨x,_⟩ _ ⟨hx,rfl⟩
  simp only at hx;subst hx
  refine app0 (ca1 (xif (fun h=>?_) (fun h=>?_)))
  · have e:wordsM seq r=([],checkR r):=by unfold wordsM;rw [if_pos (by simpa using h)]
    refine xnone W16 (xuse [Ar W16 ⟨none,0,0⟩ []] (xret ⟨by rw [e],by rw [e]⟩))
  have h0:¬ checkR r≠0:=by simpa using h
  refine xif (fun h1=>?_) (fun h1=>?_)
  · have e:wordsM seq r=([],3):=by unfold wordsM;rw [if_neg h0,if_pos (by simpa using h1)]
    refine xnone W16 (xuse [Ar W16 ⟨none,0,0⟩ []] (xret ⟨by rw [e],by rw [e]⟩))
  have e:wordsM seq r=(rowM seq r,0):=by unfold wordsM;rw [if_neg h0,if_neg (by simpa using h1)]
  refine xdraw ?_
  iterate 5 (refine xget (h:=?_))
  refine xcall0 (wide_spec r.time 3 (by decide)) rdb ?_
  rintro ⟨s0,_⟩ _ rfl
  refine app1 (ca1 (xchk (h:=xchk (h:=xchk (h:=xchk (h:=?_))))))
  refine xcall0 (wide_spec seq 3 (by decide)) rdb ?_
  rintro ⟨s1,_⟩ _ rfl
  refine app1 (ca1 (xchk (h:=xchk (h:=xchk (h:=xchk (h:=?_))))))
  refine xcall0 (wide_spec r.kind 1 (by decide)) rdb ?_
  rintro ⟨s2,_⟩ _ rfl
  refine app1 (ca1 (xchk (h:=xchk (h:=xchk (h:=?_)))))
  refine xcall0 (wide_spec r.val 4 (by decide)) rdb ?_
  rintro ⟨s3,_⟩ _ rfl
  refine app1 (ca1 (xchk (h:=xchk (h:=?_))))
  refine xcall0 (wide_spec r.id 3 (by decide)) rdb ?_
  rintro ⟨s4,_⟩ _ rfl
  refine app1 (ca1 (xchk (h:=?_)))
  refine xcall0 (text_spec r.tag) rdb ?_
  rintro ⟨s5,_⟩ _ rfl
  refine app1 (ca1 (xnew fun b1=>?_))
  simp only
  refine xfold1 0 (Q:=Ar SL ⟨some ⟨b1,0,none⟩,6,6⟩ [s0,s1,s2,s3,s4,s5]) (fun g hg=>⟨[],blk_ar [s0,s1,s2,s3,s4,s5] 6 rfl rfl hg⟩) ?_
  refine xuse [Ar SL ⟨some ⟨b1,0,none⟩,6,6⟩ [s0,s1,s2,s3,s4,s5],Ar W16 s0 (wideM r.time 3),Ar W16 s1 (wideM seq 3),Ar W16 s2 (wideM r.kind 1),Ar W16 s3 (wideM r.val 4),Ar W16 s4 (wideM r.id 3),Ar W16 s5 (pairW (textB r.tag))] ?_
  have hl:=rowM_len seq r
  refine xcall0 (joined_spec ⟨some ⟨b1,0,none⟩,6,6⟩ [s0,s1,s2,s3,s4,s5] [wideM r.time 3,wideM seq 3,wideM r.kind 1,wideM r.val 4,wideM r.id 3,pairW (textB r.tag)] (by show (rowM seq r).length≤_;rw [hl];decide) (by simp)) (rds_of fun g _ hF hs hm=>?_) ?_
  · obtain ⟨a0,c0,p0,⟨a1,c1,p1,⟨a2,c2,p2,⟨a3,c3,p3,⟨a4,c4,p4,⟨a5,c5,p5,⟨a6,c6,p6,_,_,t6,_⟩,_,t5,u5⟩,_,t4,u4⟩,_,t3,u3⟩,_,t2,u2⟩,_,t1,u1⟩,_,t0,u0⟩:=hs
    have v0:=u0.trans hm
    have v1:=u1.trans v0
    have v2:=u2.trans v1
    have v3:=u3.trans v2
    have v4:=u4.trans v3
    have v5:=u5.trans v4
    refine ⟨p0.read.mono (t0.trans hm),rfl,fun i r x hr hx=>?_⟩
    rcases i with _ | _ | _ | _ | _ | _ | i
    · obtain rfl:=Option.some.inj hr;obtain rfl:=Option.some.inj hx;exact p1.read.mono (t1.trans v0)
    · obtain rfl:=Option.some.inj hr;obtain rfl:=Option.some.inj hx;exact p2.read.mono (t2.trans v1)
    · obtain rfl:=Option.some.inj hr;obtain rfl:=Option.some.inj hx;exact p3.read.mono (t3.trans v2)
    · obtain rfl:=Option.some.inj hr;obtain rfl:=Option.some.inj hx;exact p4.read.mono (t4.trans v3)
    · obtain rfl:=Option.some.inj hr;obtain rfl:=Option.some.inj hx;exact p5.read.mono (t5.trans v4)
    · obtain rfl:=Option.some.inj hr;obtain rfl:=Option.some.inj hx;exact p6.read.mono (t6.trans v5)
    · simp at hr
  · rintro ⟨s6,_⟩ _ rfl
    exact app1 (ca1 (xkeep (l:=[_]) (xret ⟨by rw [e],by rw [e];rfl⟩)))
end Go.Cx
namespace Go.Cx
open Go Go.Cf
set_option linter.unusedVariables false
set_option maxRecDepth 100000
variable {B:Base}{As F:List HP}
def numW (xs:List Int):Nat:=xs.foldl (fun v x=>v*65536+x.toNat) 0
theorem numW_snoc (xs:List Int) (x:Int):numW (xs++[x])=numW xs*65536+x.toNat:=by unfold numW;rw [List.foldl_append];rfl
abbrev word (x:Int):Prop:=0≤x∧x<65536
theorem numW_lt:∀ (n:Nat) (xs:List Int),xs.length=n→(∀ x∈xs,word x)→numW xs<65536 ^ n:=by
  intro n
  induction n with
  | zero=>intro xs h _;obtain rfl:=List.eq_nil_of_length_eq_zero h;decide
  | succ n ih=>
    intro xs h hx
    rcases List.eq_nil_or_concat xs with rfl | ⟨ys,y,rfl⟩
    · simp at h
    rw [List.concat_eq_append] at h hx ⊢
    rw [List.length_append,List.length_singleton] at h
    have:=ih ys (by omega) fun x hx'=>hx x (List.mem_append_left _ hx')
    obtain ⟨h1,h2⟩:=hx y (by simp)
    rw [numW_snoc,Nat.pow_succ]
    omega
theorem or64w (v:Nat) (x:Int) (hv:v<281474976710656) (hx:word x):bits .or .u64 (IntKind.u64.wrap ((v:Int)*2 ^ (min (Int.toNat 16) 64))) (IntKind.u64.wrap x)=((v*65536+x.toNat:Nat):Int):=by
  obtain ⟨h1,h2⟩:=hx
  have e:(2:Int) ^ (min (Int.toNat 16) 64)=65536:=by decide
  obtain ⟨y,rfl⟩:=Int.eq_ofNat_of_zero_le h1
  have hy:y<65536:=by omega
  rw [e,show (v:Int)*65536=((v*65536:Nat):Int) by omega,wrap_u64 _ (by omega),wrap_u64 _ (by omega),u64_or_nat _ _ (by omega) (by omega),show v*65536=v*2 ^ 16 from rfl,or_add _ _ 16 (by omega),Int.toNat_natCast]
theorem hnumber_spec (w:Sl) (xs:List Int) (hl:xs.length≤4) (hx:∀ x∈xs,word x):Ct Pr F_law26_number [w.v] .one [.int .u64] [] (RAr W16 w xs) (fun t Bs=>t.1=(numW xs:Int)∧Bs=[]):=by
  refine spec1 c_law26_number fun B hr=>?_
  have fw:Fro B w W16 xs:=⟨hr⟩
  have hn:=hr.1
  unfold law26_number
  refine xloop2 (fun n (v:Int) (i:Int) As'=>∃ k:Nat,i=(k:Int)∧v=(numW (xs.take k):Int)∧n=xs.length - k∧k≤xs.length∧As'=[]) xs.length ⟨0,rfl,rfl,by omega,by omega,rfl⟩ ?_
  rintro n _ _ _ K ⟨k,rfl,rfl,rfl,hk,rfl⟩ hK
  refine xif_dec (fun h=>?_) (fun h=>?_)
  · have hlt:k<xs.length:=by omega
    have hy:=List.getElem?_eq_getElem hlt
    have hm:=hx _ (List.getElem_mem hlt)
    refine xasrt (by decide) (xidxn (E:=W16) (xs:=xs) (s:=w) (h1:=hlt) (h:=fun _ _=>?_))
    refine xgetE (E:=W16) (xs:=xs) hy (h:=?_)
    have hb:=numW_lt k (xs.take k) (by simp;omega) fun x hx'=>hx x (List.mem_of_mem_take hx')
    have hb2:numW (xs.take k)<281474976710656:=by
      have:(65536:Nat) ^ k≤65536 ^ 3:=Nat.pow_le_pow_right (by decide) (by omega)
      have e:(65536:Nat) ^ 3=281474976710656:=by decide
      omega
    rw [or64w _ _ hb2 hm,wrap_succ k (by omega)]
    refine hK (xs.length - (k+1)) _ _ _ (by omega) ⟨k+1,rfl,?_,rfl,by omega,rfl⟩
    rw [List.take_add_one,hy]
    show _=((numW (xs.take k++[xs[k]]):Nat):Int)
    rw [numW_snoc]
  · rw [List.take_of_length_le (by omega)]
    exact xret ⟨rfl,rfl⟩
def hiB (x:Int):Int:=Int.fdiv x (2 ^ (min (Int.toNat 8) 16))
def loB (x:Int):Int:=bits .and .u16 x 255
def byW (x:Int):List UInt8:=(if hiB x≠0 then [byU (hiB x)] else [])++(if loB x≠0 then [byU x] else [])
def bytesW (xs:List Int):List UInt8:=xs.flatMap byW
theorem byW_len (x:Int):(byW x).length≤2:=by unfold byW;split<;>split<;>simp
theorem bytesW_len:∀ (xs:List Int),(bytesW xs).length≤2*xs.length
  | []=>by simp [bytesW]
  | x::xs=>by
    have h1:=byW_len x
    have h2:=bytesW_len xs
    have:bytesW (x::xs)=byW x++bytesW xs:=by simp [bytesW]
    rw [this,List.length_append,List.length_cons];omega
def toldM (xs:List Int):Int×RE:=(IntKind.i64.wrap (numW ((xs.take 6).drop 3)),⟨xs.getD 6 0,IntKind.i64.wrap (numW (xs.take 3)),BA (bytesW (xs.drop 14)),IntKind.i64.wrap (numW ((xs.take 11).drop 7)),IntKind.i64.wrap (numW ((xs.take 14).drop 11))⟩)
theorem told_spec (w:Sl) (xs:List Int) (hl:xs.length=22) (hx:∀ x∈xs,word x) (hc:w.n≤w.c):Ct Pr F_law26_told [w.v] (.tup [none,some 5]) [.int .i64,.int .i64,.int .i64,.str,.int .i64,.int .i64] [] (RAr W16 w xs)
    (fun t Bs=>t=((toldM xs).1,(toldM xs).2.kind,(toldM xs).2.time,(toldM xs).2.tag,(toldM xs).2.val,(toldM xs).2.id,())∧Bs=[]):=by
  refine spec_gen (ss:=[.int .i64,.int .i64,.int .i64,.str,.int .i64,.int .i64]) c_law26_told fun B hr=>?_
  show Ent B [] (law26_told w fun s a b c d e=>Ret B (ss:=[.int .i64,.int .i64,.int .i64,.str,.int .i64,.int .i64]) (fun t Bs=>t=((toldM xs).1,(toldM xs).2.kind,(toldM xs).2.time,(toldM xs).2.tag,(toldM xs).2.val,(toldM xs).2.id,())∧Bs=[]) (s,a,b,c,d,e,()))
  have fw:Fro B w W16 xs:=⟨hr⟩
  have hn:=hr.1
  unfold law26_told
  have piece:∀ (l r:Nat) (s:Sl),l≤r→r≤22→r≤l+4→w.cut l r w.c 1=s→∀ {As:List HP}{K:Int→WP},Ent B As (K (numW ((xs.take r).drop l):Int))→Ent B As (XCall Pr F_law26_number [s.v] .one [.int .u64] K):=by
    intro l r s h1 h2 h3 hs As K hK
    have hcut:=hr.cut l r w.c h1 (by omega) (by omega)
    have hcut:RAr W16 s ((xs.take r).drop l) (frz B.W B.h0):=by rw [←hs];exact hcut
    haveI:Fro B s W16 ((xs.take r).drop l):=⟨hcut⟩
    refine xcall0 (hnumber_spec s ((xs.take r).drop l) (by simp;omega) fun x hx'=>hx x (List.mem_of_mem_take (List.mem_of_mem_drop hx'))) rdb ?_
    rintro ⟨t,_⟩ _ ⟨ht,rfl⟩
    simp only at ht;subst ht
    exact app0 (ca1 hK)
  obtain ⟨k6,hk6⟩:∃ y,xs[6]? = some y:=⟨_,List.getElem?_eq_getElem (by omega)⟩
  have hk6w:=hx k6 (List.mem_of_getElem? hk6)
  have e6:xs.getD 6 0=k6:=by rw [List.getD_eq_getElem?_getD,hk6];rfl
  refine xnew fun b=>xdraw (xslc (by decide) (by decide) (by omega) (by omega) ?_)
  simp only [Int.toNat_natCast]
  generalize hs0:w.cut (Int.toNat 0) (Int.toNat 3) w.c 1=s0
  refine xidx (E:=W16) (xs:=xs) (s:=w) (h0:=by decide) (h1:=by omega) (h:=fun y hy=>?_)
  refine xgetE (E:=W16) (xs:=xs) hk6 (h:=?_)
  refine xslc (by decide) (by decide) (by omega) (by omega) ?_
  simp only [Int.toNat_natCast]
  generalize hs1:w.cut (Int.toNat 7) (Int.toNat 11) w.c 1=s1
  refine xslc (by decide) (by decide) (by omega) (by omega) ?_
  simp only [Int.toNat_natCast]
  generalize hs2:w.cut (Int.toNat 11) (Int.toNat 14) w.c 1=s2
  have p0:∀ {As:List HP}{K:Int→WP},Ent B As (K (numW (xs.take 3):Int))→Ent B As (XCall Pr F_law26_number [s0.v] .one [.int .u64] K):=fun h=>piece 0 3 s0 (by decide) (by decide) (by decide) hs0 h
  have p1:∀ {As:List HP}{K:Int→WP},Ent B As (K (numW ((xs.take 11).drop 7):Int))→Ent B As (XCall Pr F_law26_number [s1.v] .one [.int .u64] K):=fun h=>piece 7 11 s1 (by decide) (by decide) (by decide) hs1 h
  have p2:∀ {As:List HP}{K:Int→WP},Ent B As (K (numW ((xs.take 14).drop 11):Int))→Ent B As (XCall Pr F_law26_number [s2.v] .one [.int .u64] K):=fun h=>piece 11 14 s2 (by decide) (by decide) (by decide) hs2 h
  refine xand (p0 (xchkE (E:=W16) (xs:=xs) hk6 (h:=xand (p1 (xchkE (E:=W16) (xs:=xs) hk6 (h:=xand (p2 (xchkE (E:=W16) (xs:=xs) hk6 (h:=xnew fun b1=>?_))) (xnew fun b1=>p2 (xchkE (E:=W16) (xs:=xs) hk6 (h:=?_)))))) (xnew fun b1=>p1 (xchkE (E:=W16) (xs:=xs) hk6 (h:=p2 (xchkE (E:=W16) (xs:=xs) hk6 (h:=?_)))))))) (xnew fun b1=>p0 (xchkE (E:=W16) (xs:=xs) hk6 (h:=p1 (xchkE (E:=W16) (xs:=xs) hk6 (h:=p2 (xchkE (E:=W16) (xs:=xs) hk6 (h:=?_)))))))
  all_goals
    iterate 5 (refine xset (h:=?_))
    refine xloop1 (fun n (i:Int) As'=>∃ k:Nat,i=((14+k:Nat):Int)∧n=8 - k∧k≤8∧As'=[Blk b1 (RE.cells ⟨k6,IntKind.i64.wrap (numW (xs.take 3)),BA (bytesW ((xs.drop 14).take k)),IntKind.i64.wrap (numW ((xs.take 11).drop 7)),IntKind.i64.wrap (numW ((xs.take 14).drop 11))⟩),Blk b rec0.cells]) 8 ⟨0,rfl,rfl,by omega,?_⟩ ?_
    · rw [wrap_id k6 (by omega) (by omega)];rfl
    rintro n _ _ K ⟨k,rfl,rfl,hk,rfl⟩ hK
    refine xif_dec (fun h=>?_) (fun h=>?_)
    · have hk8:k<8:=by omega
      obtain ⟨y,hy⟩:∃ y,xs[14+k]? = some y:=⟨_,List.getElem?_eq_getElem (by omega)⟩
      have hyd:(xs.drop 14)[k]? = some y:=by rw [List.getElem?_drop];exact hy
      have hbl:=bytesW_len ((xs.drop 14).take k)
      have hbl2:((xs.drop 14).take k).length≤8:=by simp;omega
      refine xidxn (E:=W16) (xs:=xs) (s:=w) (h1:=by omega) (h:=fun _ _=>?_)
      refine xgetE (E:=W16) (xs:=xs) hy (h:=xasrt (by decide) ?_)
      refine xjoin0 (fun As'=>As'=[Blk b1 (RE.cells ⟨k6,IntKind.i64.wrap (numW (xs.take 3)),BA (bytesW ((xs.drop 14).take k)++(if hiB y≠0 then [byU (hiB y)] else [])),IntKind.i64.wrap (numW ((xs.take 11).drop 7)),IntKind.i64.wrap (numW ((xs.take 14).drop 11))⟩),Blk b rec0.cells]) (fun K1 hK1=>?_) ?_
      · refine xif (fun h1=>?_) (fun h1=>?_)
        · have h1':hiB y≠0:=by
            have:(hiB y != 0)=true:=h1
            simpa using this
          rw [if_pos h1'] at hK1
          refine xdraw (xget (h:=?_))
          refine xidxn (E:=W16) (xs:=xs) (s:=w) (h1:=by omega) (h:=fun _ _=>?_)
          refine xgetE (E:=W16) (xs:=xs) hy (h:=xasrt (by decide) (xnew fun b2=>?_))
          refine xfold1 0 (Q:=Ar U8 ⟨some ⟨b2,0,none⟩,1,1⟩ [byU (hiB y)]) (fun g hg=>⟨[],blk_ar [byU (hiB y)] 1 rfl (by show [Value.int .u8 ((byU (hiB y)).toNat:Int)]=_;rw [byU_toNat];rfl) hg⟩) ?_
          refine xstr (e:=T_uint8) (s:=⟨some ⟨b2,0,none⟩,1,1⟩) (xs:=[byU (hiB y)]) (by simp) (by kernel_rfl) (by kernel_rfl) (by kernel_rfl) ?_
          refine xchk (h:=xasrt ?_ (xset (h:=?_)))
          · rw [BA_size];show _+1≤_;omega
          rw [show BA (bytesW ((xs.drop 14).take k))++(⟨[byU (hiB y)].toArray⟩:ByteArray)=BA (bytesW ((xs.drop 14).take k)++[byU (hiB y)]) from BA_app _ _]
          exact xuse' (hK1 _ rfl)
        · have h1':¬ hiB y≠0:=by
            have:(hiB y != 0)=false:=h1
            simpa using this
          rw [if_neg h1',List.append_nil] at hK1
          exact hK1 _ rfl
      rintro _ rfl
      have hbl3:(bytesW ((xs.drop 14).take k)++(if hiB y≠0 then [byU (hiB y)] else [])).length≤100:=by
        rw [List.length_append];split<;>simp<;>omega
      generalize hpre:bytesW ((xs.drop 14).take k)++(if hiB y≠0 then [byU (hiB y)] else [])=pre at *
      have hnext:bytesW ((xs.drop 14).take (k+1))=pre++(if loB y≠0 then [byU y] else []):=by
        rw [List.take_add_one,hyd,←hpre]
        show bytesW (_++[y])=_
        unfold bytesW
        rw [List.flatMap_append]
        simp [byW]
      refine xidxn (E:=W16) (xs:=xs) (s:=w) (h1:=by omega) (h:=fun _ _=>?_)
      refine xgetE (E:=W16) (xs:=xs) hy (h:=?_)
      refine xjoin0 (fun As'=>As'=[Blk b1 (RE.cells ⟨k6,IntKind.i64.wrap (numW (xs.take 3)),BA (bytesW ((xs.drop 14).take (k+1))),IntKind.i64.wrap (numW ((xs.take 11).drop 7)),IntKind.i64.wrap (numW ((xs.take 14).drop 11))⟩),Blk b rec0.cells]) (fun K1 hK1=>?_) ?_
      · rw [hnext] at hK1
        refine xif (fun h1=>?_) (fun h1=>?_)
        · have h1':loB y≠0:=by
            have:(loB y != 0)=true:=h1
            simpa using this
          rw [if_pos h1'] at hK1
          refine xdraw (xget (h:=?_))
          refine xidxn (E:=W16) (xs:=xs) (s:=w) (h1:=by omega) (h:=fun _ _=>?_)
          refine xgetE (E:=W16) (xs:=xs) hy (h:=xnew fun b2=>?_)
          refine xfold1 0 (Q:=Ar U8 ⟨some ⟨b2,0,none⟩,1,1⟩ [byU y]) (fun g hg=>⟨[],blk_ar [byU y] 1 rfl (by show [Value.int .u8 ((byU y).toNat:Int)]=_;rw [byU_toNat]) hg⟩) ?_
          refine xstr (e:=T_uint8) (s:=⟨some ⟨b2,0,none⟩,1,1⟩) (xs:=[byU y]) (by simp) (by kernel_rfl) (by kernel_rfl) (by kernel_rfl) ?_
          refine xchk (h:=xasrt ?_ (xset (h:=?_)))
          · rw [BA_size];show _+1≤_;omega
          rw [show BA pre++(⟨[byU y].toArray⟩:ByteArray)=BA (pre++[byU y]) from BA_app _ _]
          exact xuse' (hK1 _ rfl)
        · have h1':¬ loB y≠0:=by
            have:(loB y != 0)=false:=h1
            simpa using this
          rw [if_neg h1',List.append_nil] at hK1
          exact hK1 _ rfl
      rintro _ rfl
      rw [wrap_succ (14+k) (by omega)]
      exact hK (8 - (k+1)) _ _ (by omega) ⟨k+1,by omega,rfl,by omega,rfl⟩
    · have hk8:k=8:=by omega
      subst hk8
      rw [List.take_of_length_le (l:=xs.drop 14) (by simp;omega)]
      refine xdraw (xslc (by decide) (by decide) (by omega) (by omega) ?_)
      simp only [Int.toNat_natCast]
      generalize hs3:w.cut (Int.toNat 3) (Int.toNat 6) w.c 1=s3
      iterate 5 (refine xget (h:=?_))
      refine piece 3 6 s3 (by decide) (by decide) (by decide) hs3 ?_
      iterate 5 (refine xchk (h:=?_))
      iterate 5 (refine xset (h:=?_))
      iterate 5 (refine xget (h:=?_))
      refine xkeep (l:=[]) (xret ⟨?_,rfl⟩)
      unfold toldM
      rw [e6]
end Go.Cx
namespace Go.Cx
open Go Go.Cf
set_option linter.unusedVariables false
set_option maxRecDepth 100000
variable {B:Base}{As F:List HP}
theorem ca6 {s1 s2 s3 s4 s5 s6:Sh}{K:s1.ty→s2.ty→s3.ty→s4.ty→s5.ty→s6.ty→WP}{a:s1.ty}{b:s2.ty}{c:s3.ty}{d:s4.ty}{e:s5.ty}{f:s6.ty}{u:Unit}(h:Ent B As (K a b c d e f)):Ent B As (Cur.app [s1,s2,s3,s4,s5,s6] K (a,b,c,d,e,f,u)):=h
def recAtM (lg:LM) (n:Int):RE×Bool:=if (getL lg n).2≠0 then (rec0,false) else ((getM (getL lg n).1).1,(getM (getL lg n).1).2 == 0)
theorem recAt_spec (q p:Option Addr) (lg:LM) (n:Int) (hn:i64 n):Ct Pr F_history_recordAt [.pointer q,.int .i64 n] (.tup [some 5,none]) [.int .i64,.int .i64,.str,.int .i64,.int .i64,.bool] [LogObj q p lg] emp
    (fun t Bs=>t=((recAtM lg n).1.kind,(recAtM lg n).1.time,(recAtM lg n).1.tag,(recAtM lg n).1.val,(recAtM lg n).1.id,(recAtM lg n).2,())∧Bs=[LogObj q p lg]):=by
  refine spec_gen (ss:=[.int .i64,.int .i64,.str,.int .i64,.int .i64,.bool]) c_history_recordAt fun B _=>?_
  show Ent B [LogObj q p lg] (history_recordAt q n fun a b c d e f=>Ret B (ss:=[.int .i64,.int .i64,.str,.int .i64,.int .i64,.bool]) (fun t Bs=>t=((recAtM lg n).1.kind,(recAtM lg n).1.time,(recAtM lg n).1.tag,(recAtM lg n).1.val,(recAtM lg n).1.id,(recAtM lg n).2,())∧Bs=[LogObj q p lg]) (a,b,c,d,e,f,()))
  unfold history_recordAt
  refine xfact 0 (P1:=LogObj q p lg) (fun g hg=>hg.1) fun hi=>?_
  refine xnew fun b=>?_
  refine xcl (sGet_spec q p lg n hn) rdb ?_
  rintro ⟨s,e,_⟩ _ ⟨he,rfl⟩
  simp only at he;subst he
  have hlen:=getL_len hi n
  refine app2 (ca2 (xif (fun h=>?_) (fun h=>?_)))
  · have em:recAtM lg n=(rec0,false):=by unfold recAtM;rw [if_pos (by simpa using h)]
    iterate 5 (refine xset (h:=?_))
    iterate 5 (refine xget (h:=?_))
    exact xuse [LogObj q p lg] (xret ⟨by rw [em],rfl⟩)
  · have em:recAtM lg n=((getM (getL lg n).1).1,(getM (getL lg n).1).2 == 0):=by unfold recAtM;rw [if_neg (by simpa using h)]
    refine xfront 1 (xgot (by omega) (xnew fun b1=>?_))
    iterate 5 (refine xset (h:=?_))
    iterate 5 (refine xget (h:=?_))
    iterate 5 (refine xset (h:=?_))
    iterate 5 (refine xget (h:=?_))
    exact xuse [LogObj q p lg] (xret ⟨by rw [em],rfl⟩)
def goneR (lg:LM) (from':Int):Nat→Int→Bool
  | 0,_=>true
  | k+1,n=>if (recAtM lg n).2 then decide (from'≤(recAtM lg n).1.time) else goneR lg from' k (n+1)
def goneB (lg:LM) (from':Int):Bool:=if lg.lo=0 then false else goneR lg from' (lg.next - lg.lo).toNat lg.lo
theorem gone_spec (q p:Option Addr) (lg:LM) (from':Int):Ct Pr F_history_gone [.pointer q,.int .i64 from'] .one [.bool] [LogObj q p lg] emp (fun t Bs=>t.1=goneB lg from'∧Bs=[LogObj q p lg]):=by
  refine spec1 c_history_gone fun B _=>?_
  unfold history_gone
  refine xfact 0 (P1:=LogObj q p lg) (fun g hg=>hg.1) fun hi=>?_
  have hlo:=hi.lo
  have hnx:=hi.next
  refine xcl (sFirst_spec q p lg) rdb ?_
  rintro ⟨t,_⟩ _ ⟨ht,rfl⟩
  simp only at ht;subst ht
  refine app1 (ca1 (xif (fun h=>xret ⟨?_,rfl⟩) (fun h=>?_)))
  · unfold goneB;rw [if_pos (eq_of_beq h)]
  have eg:goneB lg from'=goneR lg from' (lg.next - lg.lo).toNat lg.lo:=by unfold goneB;rw [if_neg (by simpa using h)]
  rw [eg]
  refine xcl (sFirst_spec q p lg) rdb ?_
  rintro ⟨t,_⟩ _ ⟨ht,rfl⟩
  simp only at ht;subst ht
  refine app1 (ca1 ?_)
  refine xloop1 (fun m (x:Int) As'=>lg.lo≤x∧(x≤lg.next∨x=lg.lo)∧m=(lg.next - x).toNat∧goneR lg from' (lg.next - x).toNat x=goneR lg from' (lg.next - lg.lo).toNat lg.lo∧As'=[LogObj q p lg]) (lg.next - lg.lo).toNat ⟨by omega,.inr rfl,rfl,rfl,rfl⟩ ?_
  rintro m x As' K ⟨h1,h2,rfl,h3,rfl⟩ hK
  refine xcl (sNext_spec q p lg) rdb ?_
  rintro ⟨t,_⟩ _ ⟨ht,rfl⟩
  simp only at ht;subst ht
  refine app1 (ca1 (xif_dec (fun h4=>?_) (fun h4=>?_)))
  · obtain ⟨k,hk⟩:∃ k,(lg.next - x).toNat=k+1:=⟨(lg.next - x).toNat - 1,by omega⟩
    have hk2:(lg.next - (x+1)).toNat=k:=by omega
    refine xcl (recAt_spec q p lg x ⟨by omega,by omega⟩) rdb ?_
    rintro _ _ ⟨rfl,rfl⟩
    refine app1 (ca6 (xnew fun b=>?_))
    iterate 5 (refine xset (h:=?_))
    rw [hk,goneR] at h3
    refine xif (fun h5=>?_) (fun h5=>?_)
    · rw [if_pos h5] at h3
      refine xget (h:=xuse [LogObj q p lg] (xret ⟨h3,rfl⟩))
    · rw [if_neg (by rw [h5];simp)] at h3
      rw [wrap_id _ (by omega) (by omega)]
      exact xuse [LogObj q p lg] (hK k _ _ (by omega) ⟨by omega,.inl (by omega),hk2.symm,by rw [hk2];exact h3,rfl⟩)
  · have hk:(lg.next - x).toNat=0:=by omega
    rw [hk,goneR] at h3
    exact xret ⟨h3,rfl⟩
def rowsW (lg:LM):Nat→List Int→List Int→List Int
  | _,out,[]=>out
  | rows,out,n::ns=>if (recAtM lg n).2=false then rowsW lg rows out ns else if rows+1>454 then out else rowsW lg (rows+1) (out++(wordsM n (recAtM lg n).1).1) ns
def fileM (lg:LM) (X:XM) (span file:Int):List Int×Int:=
  if span<1∨span>1048576∨file<1∨file>65535 then ([],3)
  else if goneB lg ((file - 1)*span)=true then ([],31)
  else (rowsW lg 0 [] (rngX X ((file - 1)*span) ((file - 1)*span+span) lg.lo),0)
theorem wordsM_len (n:Int) (r:RE):(wordsM n r).1.length≤22:=by
  unfold wordsM
  split
  · simp
  · split
    · simp
    · rw [rowM_len];omega
theorem xjoin3 {s t u:Sh}{body:(s.ty→t.ty→u.ty→WP)→WP}{rest:s.ty→t.ty→u.ty→WP}(J:s.ty→t.ty→u.ty→List HP→Prop) (h1:∀ K:s.ty→t.ty→u.ty→WP,(∀ x y z As',J x y z As'→Ent B As' (K x y z))→Ent B As (body K)) (h2:∀ x y z As',J x y z As'→Ent B As' (rest x y z)) :
    Ent B As (XJoin [s,t,u] body rest):=h1 rest h2
theorem hjoin2 {s t:Sh}{body:(s.ty→t.ty→WP)→WP}{rest:s.ty→t.ty→WP}(J:s.ty→t.ty→List HP→Prop) (h1:∀ K:s.ty→t.ty→WP,(∀ x y As',J x y As'→Ent B As' (K x y))→Ent B As (body K)) (h2:∀ x y As',J x y As'→Ent B As' (rest x y)) :
    Ent B As (XJoin [s,t] body rest):=h1 rest h2
theorem File_spec (l x d:Option Addr) (lg:LM) (X:XM) (span file:Int) (hL:X.L.length≤1000000) (hX:∀ y∈X.L,i64 y.2):Ct Pr F_history_File [.pointer l,.pointer x,.int .i64 span,.int .i64 file] (.tup [none,none]) [.slice,.int .i64] [LogObj l d lg,IdxObj x d l X] emp
    (fun t Bs=>t.2.1=(fileM lg X span file).2∧Bs=[LogObj l d lg,IdxObj x d l X,Ar W16 t.1 (fileM lg X span file).1]):=by
  refine spec2 c_history_File fun B _=>?_
  unfold history_File
  refine xif (fun h=>?_) (fun h=>?_)
  · have e:fileM lg X span file=([],3):=by unfold fileM;rw [if_pos (by simp at h;omega)]
    exact xnone W16 (xuse [LogObj l d lg,IdxObj x d l X,Ar W16 ⟨none,0,0⟩ []] (xret ⟨by rw [e],by rw [e]⟩))
  have hr:1≤span∧span≤1048576∧1≤file∧file≤65535:=by simp at h;omega
  obtain ⟨r1,r2,r3,r4⟩:=hr
  have hm0:0≤(file - 1)*span:=Int.mul_nonneg (by omega) (by omega)
  have hm1:(file - 1)*span≤65535*1048576:=Int.mul_le_mul (by omega) r2 (by omega) (by omega)
  have w1:IntKind.i64.wrap (IntKind.i64.wrap (file - 1)*span)=(file - 1)*span:=by rw [wrap_id (file - 1) (by omega) (by omega),wrap_id _ (by omega) (by omega)]
  rw [w1,wrap_id ((file - 1)*span+span) (by omega) (by omega)]
  have e0:fileM lg X span file=if goneB lg ((file - 1)*span)=true then ([],31)
    else (rowsW lg 0 [] (rngX X ((file - 1)*span) ((file - 1)*span+span) lg.lo),0):=by unfold fileM;rw [if_neg (by omega)]
  generalize hfr:(file - 1)*span=fr at *
  refine xcl (gone_spec l d lg fr) rdb ?_
  rintro ⟨c,_⟩ _ ⟨hc,rfl⟩
  simp only at hc;subst hc
  refine app1 (ca1 (xif (fun h=>?_) (fun h=>?_)))
  · rw [if_pos h] at e0
    exact xnone W16 (xuse [LogObj l d lg,IdxObj x d l X,Ar W16 ⟨none,0,0⟩ []] (xret ⟨by rw [e0],by rw [e0]⟩))
  rw [if_neg (by rw [h];simp)] at e0
  refine xcl (sFirst_spec l d lg) rdb ?_
  rintro ⟨t,_⟩ _ ⟨ht,rfl⟩
  simp only at ht;subst ht
  refine app1 (ca1 ?_)
  refine xcl (iRange_spec x d l X fr (fr+span) lg.lo (by omega)) rdb ?_
  rintro ⟨s,_⟩ _ rfl
  refine app2 (ca1 ?_)
  have hns:∀ n∈rngX X fr (fr+span) lg.lo,i64 n:=fun n hn=>by
    unfold rngX selK rngK at hn
    obtain ⟨y,hy,rfl⟩:=List.mem_map.1 hn
    exact hX y (List.mem_filter.1 (List.mem_filter.1 hy).1).1
  have hnl:(rngX X fr (fr+span) lg.lo).length≤1000000:=by
    unfold rngX selK rngK
    rw [List.length_map]
    exact Nat.le_trans (List.length_filter_le _ _) (Nat.le_trans (List.length_filter_le _ _) hL)
  generalize hnsE:rngX X fr (fr+span) lg.lo=ns at *
  refine xlen (E:=I64) (xs:=ns) s fun hsn _=>?_
  simp only
  refine xuse [Ar I64 s ns,LogObj l d lg,IdxObj x d l X] ?_
  refine xjoin3 (fun(rows:Int) (out:Sl) (z:Int) As'=>∃ G,As'=[Ar W16 out (rowsW lg 0 [] ns),LogObj l d lg,IdxObj x d l X]++G) (fun K1 hK1=>?_) ?_
  · refine xnone W16 ?_
    refine xuse [Ar W16 ⟨none,0,0⟩ [],LogObj l d lg,IdxObj x d l X,Ar I64 s ns] ?_
    refine xloop3 (fun n (rows:Int) (out:Sl) (z:Int) As'=>∃ (k rw':Nat) (ws:List Int),z=(k:Int)∧rows=(rw':Int)∧n=ns.length - k∧k≤ns.length∧rw'≤454∧ws.length≤22*rw'∧rowsW lg rw' ws (ns.drop k)=rowsW lg 0 [] ns∧As'=[Ar W16 out ws,LogObj l d lg,IdxObj x d l X,Ar I64 s ns]) ns.length ⟨0,0,[],rfl,rfl,by omega,by omega,by omega,by simp,rfl,rfl⟩ ?_
    rintro n _ out _ _ K ⟨k,rw',ws,rfl,rfl,rfl,hk,hrw,hws,hrows,rfl⟩ hK
    refine xif_dec (fun hlt=>?_) (fun hlt=>?_)
    · have hkl:k<ns.length:=by omega
      have hy:=List.getElem?_eq_getElem hkl
      have hdrop:ns.drop k=ns[k]::ns.drop (k+1):=List.drop_eq_getElem_cons hkl
      have hi64:=hns _ (List.getElem_mem hkl)
      generalize ns[k]=m at *
      rw [hdrop,rowsW] at hrows
      have next:∀ (rw2:Nat) (ws2:List Int) (out2:Sl),rw2≤454→ws2.length≤22*rw2→rowsW lg rw2 ws2 (ns.drop (k+1))=rowsW lg 0 [] ns→Ent B [Ar W16 out2 ws2,LogObj l d lg,IdxObj x d l X,Ar I64 s ns] (K (rw2:Int) out2 (IntKind.i64.wrap ((k:Int)+1))):=fun rw2 ws2 out2 q1 q2 q3=>by
        rw [wrap_succ k (by omega)]
        exact hK (ns.length - (k+1)) _ _ _ _ (by omega) ⟨k+1,rw2,ws2,rfl,rfl,rfl,by omega,q1,q2,q3,rfl⟩
      refine xjoin ?_
      refine xidxn (E:=I64) (xs:=ns) (s:=s) (h1:=hkl) (h:=fun _ _=>?_)
      refine xgetE (E:=I64) (xs:=ns) hy (h:=?_)
      refine xcl (recAt_spec l d lg m hi64) rdb ?_
      rintro _ _ ⟨rfl,rfl⟩
      refine app1 (ca6 (xnew fun b=>?_))
      iterate 5 (refine xset (h:=?_))
      refine xif (fun h1=>?_) (fun h1=>?_)
      · have h1':(recAtM lg m).2=false:=by simpa using h1
        rw [if_pos h1'] at hrows
        exact xuse' (next rw' ws out hrw hws hrows)
      · have h1':¬ (recAtM lg m).2=false:=by simpa using h1
        rw [if_neg h1'] at hrows
        rw [wrap_succ rw' (by omega)]
        refine xif_dec (fun h2=>?_) (fun h2=>?_)
        · rw [if_pos (by omega)] at hrows
          rw [←hrows] at hK1
          exact xuse [Ar W16 out ws,LogObj l d lg,IdxObj x d l X] (hK1 _ _ _ _ ⟨[],rfl⟩)
        · rw [if_neg (by omega)] at hrows
          iterate 5 (refine xget (h:=?_))
          refine xcall0 (hWords_spec m (recAtM lg m).1) rdb ?_
          rintro ⟨s1,e1,_⟩ _ ⟨_,rfl⟩
          have hwl:=wordsM_len m (recAtM lg m).1
          refine app1 (ca2 ?_)
          simp only
          refine xapp (E:=W16) (s:=out) (ys:=(wordsM m (recAtM lg m).1).1) (hb:=by omega) (h:=fun s2=>?_)
          exact xuse' (next (rw'+1) (ws++(wordsM m (recAtM lg m).1).1) s2 (by omega) (by rw [List.length_append];omega) hrows)
    · have:ns.drop k=[]:=List.drop_eq_nil_of_le (by omega)
      rw [this,rowsW] at hrows
      rw [←hrows] at hK1
      exact hK1 _ _ _ _ ⟨[Ar I64 s ns],rfl⟩
  · rintro rows out z _ ⟨G,rfl⟩
    exact xkeep (xuse [LogObj l d lg,IdxObj x d l X,Ar W16 out (rowsW lg 0 [] ns)] (xret ⟨by rw [e0],by rw [e0]⟩))
end Go.Cx
namespace Go.Cx
open Go Go.Cf
set_option linter.unusedVariables false
set_option maxRecDepth 100000
variable {B:Base}{As F:List HP}
theorem tw_step {α:Type}{P:α→Bool}:∀ {L:List α}{k:Nat}{y:α},k≤(L.takeWhile P).length→L[k]? = some y→P y=true→k+1≤(L.takeWhile P).length
  | [],k,y,_,h,_=>by simp at h
  | x::L,k,y,hk,hy,hp=>by
    cases hx:P x with
    | false=>
      rw [List.takeWhile_cons_of_neg (by rw [hx];simp)] at hk
      obtain rfl:k=0:=by simpa using hk
      obtain rfl:x=y:=by simpa using hy
      rw [hx] at hp;cases hp
    | true=>
      rw [List.takeWhile_cons_of_pos hx] at hk ⊢
      cases k with
      | zero=>simp
      | succ k=>
        simp only [List.length_cons] at hk ⊢
        have:=tw_step (L:=L) (k:=k) (by omega) (by simpa using hy) hp
        omega
theorem tw_stop {α:Type}{P:α→Bool}:∀ {L:List α}{k:Nat},k≤(L.takeWhile P).length→(∀ y,L[k]? = some y→P y=false)→(L.takeWhile P).length=k
  | [],k,hk,_=>by simp at hk ⊢;omega
  | x::L,k,hk,hn=>by
    cases hx:P x with
    | false=>
      rw [List.takeWhile_cons_of_neg (by rw [hx];simp)] at hk ⊢
      simp at hk ⊢;omega
    | true=>
      rw [List.takeWhile_cons_of_pos hx] at hk ⊢
      cases k with
      | zero=>have:=hn x rfl;rw [hx] at this;cases this
      | succ k=>
        simp only [List.length_cons] at hk ⊢
        have:=tw_stop (L:=L) (k:=k) (by omega) (fun y hy=>hn y (by simpa using hy))
        omega
theorem drops_raw (b:Nat) (p:Option Addr) (l:LM) (s:Sl) (cs:List CS) (to:Int) (hs:s.n=cs.length) (hf:LF cs l.segs) (hi:LInv l):Ct Pr F_segs_Log_drops [.pointer (some ⟨b,0,none⟩),.int .i64 to,.int .i64 1] .one [.int .i64] [Blk b (logCells p l s),Ar SEG s cs] emp
    (fun t Bs=>t.1=(dropsL l to 1:Int)∧Bs=[Blk b (logCells p l s),Ar SEG s cs]):=by
  refine spec1 c_segs_Log_drops fun B _=>?_
  unfold segs_Log_drops
  have hfew:=hi.few
  have hl:=hf.len
  refine xdraw (xnil (xget (h:=?_)))
  have e1:(if (1:Int)>1 then (1:Int) else 1)=1:=by decide
  rw [e1,wrap_id _ (by omega) (by omega)]
  generalize hL:l.segs.take (l.segs.length - (max (1:Int) 1).toNat)=L
  have hd:dropsL l to 1=(L.takeWhile fun s=>decide (s.next≤min to l.safe)).length:=by unfold dropsL;rw [hL]
  have hget:∀ k:Nat,L[k]? = if k<cs.length - 1 then l.segs[k]? else none:=fun k=>by
    rw [←hL,List.getElem?_take,show (max (1:Int) 1).toNat=1 from rfl,hl]
  rw [hd]
  refine xloop1 (fun n (x:Int) As'=>∃ k:Nat,x=(k:Int)∧n=cs.length - k∧k≤cs.length∧k≤(L.takeWhile fun s=>decide (s.next≤min to l.safe)).length∧As'=[Blk b (logCells p l s),Ar SEG s cs]) cs.length ⟨0,rfl,rfl,by omega,by omega,rfl⟩ ?_
  rintro n _ _ K ⟨k,rfl,rfl,hk,hk2,rfl⟩ hK
  refine xdraw (xjoin1 (fun(c:Bool) As'=>(c=true→k+1≤(L.takeWhile fun s=>decide (s.next≤min to l.safe)).length∧k+1≤cs.length)∧(c=false→(L.takeWhile fun s=>decide (s.next≤min to l.safe)).length=k)∧As'=[Blk b (logCells p l s),Ar SEG s cs]) (fun K1 hK1=>?_) ?_)
  · refine xif_dec (fun h=>?_) (fun h=>?_)
    · have hlt:k<cs.length - 1:=by omega
      obtain ⟨c,hc⟩:∃ c,cs[k]? = some c:=⟨_,List.getElem?_eq_getElem (by omega)⟩
      obtain ⟨sg,hsg⟩:∃ sg,l.segs[k]? = some sg:=⟨_,List.getElem?_eq_getElem (by omega)⟩
      obtain ⟨g1,g2,g3,g4,g5⟩:=hf.each k c sg hc hsg
      obtain ⟨b1,b2,b3,b4,b5⟩:=hi.segs sg (List.mem_of_getElem? hsg)
      have hLk:L[k]? = some sg:=by rw [hget,if_pos hlt,hsg]
      refine xnil (xget (h:=?_))
      refine xidxn (E:=SEG) (xs:=cs) (s:=s) (h1:=by omega) (h:=fun _ _=>?_)
      refine xgetE (E:=SEG) (xs:=cs) hc (h:=?_)
      iterate 3 (refine xgetEj (E:=SEG) (xs:=cs) hc (h:=?_))
      refine xnil (xget (h:=?_))
      refine xcall0 (segnext_spec c.1 c.2.1 c.2.2.1 c.2.2.2) rdb ?_
      rintro ⟨t,_⟩ _ ⟨ht,rfl⟩
      simp only at ht;subst ht
      have hnx:IntKind.i64.wrap (c.2.1+(c.2.2.2.n:Int))=sg.next:=by
        rw [wrap_id _ (by omega) (by omega),g2,g4];rfl
      refine app0 (ca1 (xchk (h:=?_)))
      rw [hnx]
      have hmin:(decide (sg.next≤if l.safe<to then l.safe else to))=decide (sg.next≤min to l.safe):=by
        congr 1
        rw [Int.min_def]
        split<;>split <;> (first | rfl | (apply propext;constructor<;>intro<;>omega))
      rw [hmin]
      exact hK1 _ _ ⟨fun e=>⟨tw_step hk2 hLk e,by omega⟩,fun e=>tw_stop hk2 fun y hy=>by
        rw [hLk] at hy
        obtain rfl:=Option.some.inj hy
        exact e,rfl⟩
    · refine hK1 _ _ ⟨fun e=>(by cases e),fun _=>tw_stop hk2 fun y hy=>?_,rfl⟩
      rw [hget,if_neg (by omega)] at hy;cases hy
  · rintro c _ ⟨h1,h2,rfl⟩
    refine xif (fun h=>?_) (fun h=>?_)
    · obtain ⟨q1,q2⟩:=h1 h
      rw [wrap_succ k (by omega)]
      exact hK (cs.length - (k+1)) _ _ (by omega) ⟨k+1,rfl,rfl,by omega,q1,rfl⟩
    · exact xret ⟨by rw [h2 h],rfl⟩
theorem Trim0_spec (q p:Option Addr) (m:DM) (l:LM) (to:Int) (hd:m.down=false) (h0:dropsL l to 1=0):Ct Pr F_segs_Log_Trim [.pointer q,.int .i64 to,.int .i64 1] .one [.int .i64] [LogObj q p l,DevObj p m] emp
    (fun t Bs=>Bs=[LogObj q p l,DevObj p m]):=by
  refine spec1 c_segs_Log_Trim fun B _=>?_
  unfold segs_Log_Trim
  refine xlog 0 fun hi b s cs hq hf hs=>?_
  subst hq
  refine xcl (alive_raw b p m l s) rdb ?_
  rintro ⟨t,_⟩ _ ⟨ht,rfl⟩
  simp only [hd] at ht
  obtain rfl:t=0:=ht
  refine app2 (ca1 (xiff rfl ?_))
  refine xcl (drops_raw b p l s cs to hs hf hi) rdb ?_
  rintro ⟨t,_⟩ _ ⟨ht,rfl⟩
  simp only [h0] at ht
  obtain rfl:t=0:=ht
  refine app2 (ca1 (xift rfl ?_))
  refine xlog_back (p:=p) (l:=l) b s cs hi ?_
  exact xuse [LogObj (some ⟨b,0,none⟩) p l,DevObj p m] (xret rfl)
def addX (X:XM) (k:KY):XM:=if k.1<0∨k.1>1099511627776∨k.2<0∨k.2>1099511627776 then X else if k.2≤X.last then X else putX X k.1 k.2
theorem addX_len (X:XM) (k:KY):(addX X k).L.length≤X.L.length+1:=by
  unfold addX
  split
  · omega
  · split
    · omega
    · unfold putX
      simp only
      by_cases hm:(k.1,k.2)∈X.L
      · rw [ins_mem hm];omega
      · rw [ins_len hm];omega
theorem iAdd_spec (x d l:Option Addr) (X:XM) (k:KY) (hL:X.L.length≤4000000000000000):Ct Pr F_index_Index_Add [.pointer x,.int .i64 k.1,.int .i64 k.2] .one [.int .i64] [IdxObj x d l X] emp (fun t Bs=>Bs=[IdxObj x d l (addX X k)]):=by
  refine spec1 c_index_Index_Add fun B _=>?_
  unfold index_Index_Add
  refine xif (fun h=>?_) (fun h=>?_)
  · have e:addX X k=X:=by unfold addX;rw [if_pos (by simp at h;omega)]
    rw [e];exact xret rfl
  have h':¬ (k.1<0∨k.1>1099511627776∨k.2<0∨k.2>1099511627776):=by simp at h;omega
  refine xindex 0 fun b q hx=>?_
  subst hx
  refine xnil (xget (h:=?_))
  refine xindex_back b q d l X ?_
  refine xif_dec (fun h2=>?_) (fun h2=>?_)
  · have e:addX X k=X:=by unfold addX;rw [if_neg h',if_pos h2]
    rw [e];exact xret rfl
  · have e:addX X k=putX X k.1 k.2:=by unfold addX;rw [if_neg h',if_neg h2]
    refine xcl (putX_spec (some ⟨b,0,none⟩) d l X k.1 k.2 hL) rdb ?_
    rintro _ _ rfl
    rw [e]
    exact app1 (ca0 (xret rfl))
end Go.Cx
namespace Go.Cx
open Go Go.Cf
set_option linter.unusedVariables false
set_option maxRecDepth 100000
variable {B:Base}{As F:List HP}
theorem Ct.rdw {P:Program}{f:FuncId}{args:List Value}{rs:Rs}{ss:List Sh}{pre:List HP}{rd rd':HP}{post:Tup ss→List HP→Prop}(h:Ct P f args rs ss pre rd post) (hr:∀ g,rd' g→rd g):Ct P f args rs ss pre rd' post:=fun w g a b c=>h w g a b (hr _ c)
abbrev laidL (ps:List (List UInt8)):DM×LM:=((syncL (fill0 ps).1 (fill0 ps).2).1,(syncL (fill0 ps).1 (fill0 ps).2).2.1)
theorem laidL_rel (ps:List (List UInt8)) (h:ps.length≤100000):∃ (gs:List (List (List UInt8))) (safe:Nat),(laidL ps).2=logOf gs safe∧Rel (laidL ps).1 gs safe∧gs.flatten.length≤ps.length∧(laidL ps).1.armed=false∧(laidL ps).1.down=false:=by
  obtain ⟨gs,safe,f1,f2,f3,f4,f5⟩:=fill_rel ps h
  obtain ⟨safe2,u1,u2,u3,u4,u5,u6⟩:=f2.sstep
  rw [←f1] at u1 u2 u5
  exact ⟨gs,safe2,u1,u2,f3,u5 f4 f5⟩
def addAll (X:XM) (ys:List KY):XM:=ys.foldl addX X
theorem addAll_len:∀ (ys:List KY) (X:XM),(addAll X ys).L.length≤X.L.length+ys.length
  | [],X=>by simp [addAll]
  | y::ys,X=>by
    have h1:=addX_len X y
    have h2:=addAll_len ys (addX X y)
    have e:addAll X (y::ys)=addAll (addX X y) ys:=rfl
    rw [e,List.length_cons];omega
theorem addAll_snoc (X:XM) (ys:List KY) (y:KY):addAll X (ys++[y])=addX (addAll X ys) y:=by unfold addAll;rw [List.foldl_append];rfl
theorem laid26_spec (s0:Sl) (rs:List Sl) (ps:List (List UInt8)) (to:Int) (s2:Sl) (ys:List KY) (hps:ps.length≤1000) (hys:ys.length≤1000) (T:DM×LM)
    (hT:∀ q p,Ct Pr F_segs_Log_Trim [.pointer q,.int .i64 to,.int .i64 1] .one [.int .i64] [LogObj q p (laidL ps).2,DevObj p (laidL ps).1] GTab (fun t Bs=>Bs=[LogObj q p T.2,DevObj p T.1])) (hd:T.1.down=false) (ha:T.1.armed=false) (hTi:T.2.next - T.2.lo≤100000) :
    Ct Pr F_law26_laid [.agg #[s0.v,.int .i64 to,s2.v]] (.tup [none,none,none]) [.ptr,.ptr,.bool] [] (((RowsAt s0 rs ps).and (RAr KE s2 ys)).and GTab)
      (fun t Bs=>t.2.2.1=true∧∃ d m,Bs=[DevObj d m,LogObj t.1 d T.2,IdxObj t.2.1 d t.1 (addAll (openX T.2) ys)]):=by
  refine spec3 c_law26_laid fun B hr=>?_
  obtain ⟨⟨⟨ha0,hl,hrow⟩,hadd⟩,hg⟩:=hr
  haveI:Fro B s0 SL rs:=⟨ha0⟩
  haveI:Fro B s2 KE ys:=⟨hadd⟩
  haveI:FroP B GTab:=⟨hg,fun _ _ h s=>GTab.mono _ _ h s⟩
  have h1:=ha0.1
  have h2:=hadd.1
  unfold law26_laid
  refine xnew fun bs=>?_
  refine xcall0 (New_spec 1048576) rdb ?_
  rintro ⟨q,r,_⟩ _ (⟨h,_⟩ | ⟨_,_,h1,⟨b,h2⟩,rfl⟩)
  · omega
  simp only at h1 h2;subst h1 h2
  refine app1 (ca2 ?_)
  refine xcl (sOpen_spec (some ⟨b,0,none⟩) k20) rdb ?_
  have he:=open_empty k20_inv rfl rfl
  rintro ⟨q1,r1,_⟩ _ (⟨l,b1,e1,e2,e3,e4,rfl⟩ | ⟨e1,_⟩)
  rotate_left
  · rw [he] at e1;cases e1
  simp only at e3 e4;subst e3 e4
  rw [he] at e1
  obtain rfl:=Option.some.inj e1
  rw [he]
  refine app2 (ca2 (xjoin (xiff rfl (xiff rfl ?_))))
  refine xloop1 (fun n (x:Int) As'=>∃ k:Nat,x=(k:Int)∧n=rs.length - k∧k≤rs.length∧As'=[LogObj (some ⟨b1,0,none⟩) (some ⟨b,0,none⟩) (fill0 (ps.take k)).2,DevObj (some ⟨b,0,none⟩) (fill0 (ps.take k)).1,Blk bs [s0.v,.int .i64 to,s2.v]]) rs.length ⟨0,rfl,rfl,by omega,rfl⟩ ?_
  rintro n x As' K ⟨k,rfl,rfl,hk,rfl⟩ hK
  have htl:(ps.take k).length≤ps.length:=by simp;omega
  obtain ⟨gs,safe,f1,f2,f3,f4,f5⟩:=fill_rel (ps.take k) (by omega)
  refine xget (h:=xif_dec (fun h=>?_) (fun h=>?_))
  · have hlt:k<rs.length:=by omega
    obtain ⟨y,hy⟩:∃ y,ps[k]? = some y:=⟨_,List.getElem?_eq_getElem (by omega)⟩
    refine xget (h:=?_)
    refine xidxn (E:=SL) (xs:=rs) (s:=s0) (h1:=hlt) (h:=fun r hr=>?_)
    haveI:Fro B r U8 y:=⟨hrow k r y hr hy⟩
    refine xgetE (E:=SL) (xs:=rs) hr (h:=?_)
    have hgl:=fill_rel (ps.take (k+1)) (by simp;omega)
    have etake:ps.take (k+1)=ps.take k++[y]:=by rw [List.take_add_one,hy];rfl
    have e6:fill0 (ps.take (k+1))=((appendL (fill0 (ps.take k)).1 (fill0 (ps.take k)).2 y).1,(appendL (fill0 (ps.take k)).1 (fill0 (ps.take k)).2 y).2.1):=by rw [etake];exact fill_snoc _ _ _
    obtain ⟨gs2,safe2,g1,g2,g3,_⟩:=hgl
    have htl2:(ps.take (k+1)).length≤ps.length:=by simp;omega
    refine xcl (sAppend_spec (some ⟨b1,0,none⟩) (some ⟨b,0,none⟩) (fill0 (ps.take k)).1 (fill0 (ps.take k)).2 r y (by rw [f1];exact f2.calm) ?_) (rds_and rdb rdb) ?_
    · have:(appendL (fill0 (ps.take k)).1 (fill0 (ps.take k)).2 y).2.1=(fill0 (ps.take (k+1))).2:=by rw [e6]
      rw [this,g1]
      exact g2.linv (by omega)
    rintro ⟨t,t1,_⟩ _ ⟨_,_,rfl⟩
    refine app2 (ca2 ?_)
    rw [wrap_succ k (by omega)]
    refine hK _ _ _ (by omega) ⟨k+1,rfl,rfl,by omega,?_⟩
    rw [e6]
  · have hk:k=ps.length:=by omega
    have e:ps.take k=ps:=List.take_of_length_le (by omega)
    rw [e] at f1 f2 f3 f4 f5 ⊢
    refine xcl (sSync_spec (some ⟨b1,0,none⟩) (some ⟨b,0,none⟩) (fill0 ps).1 (fill0 ps).2 (by rw [f1];exact f2.calm)) rdb ?_
    rintro ⟨t,_⟩ _ ⟨_,rfl⟩
    refine app2 (ca1 (xget (h:=?_)))
    refine xcl (pre:=[LogObj (some ⟨b1,0,none⟩) (some ⟨b,0,none⟩) (laidL ps).2,DevObj (some ⟨b,0,none⟩) (laidL ps).1]) (hT (some ⟨b1,0,none⟩) (some ⟨b,0,none⟩)) rdb ?_
    rintro ⟨t,_⟩ _ rfl
    refine app2 (ca1 ?_)
    refine xcl (iOpen_spec (some ⟨b,0,none⟩) (some ⟨b1,0,none⟩) T.1 T.2) rdb ?_
    have hdr:=drop_up (m:=T.1) idxNew hd ha
    rintro ⟨q2,r4,_⟩ _ ⟨h3,_,h5⟩
    obtain ⟨h6,rfl⟩:=h5 hdr
    simp only at h3 h6
    rw [hdr] at h3
    subst h3
    refine app3 (ca2 (xjoin (xiff rfl (xiff ?_ ?_))))
    · cases q2 with
      | none=>exact absurd rfl h6
      | some a=>rfl
    simp only
    have hol:=openTo_len T.2 (T.2.next - T.2.lo).toNat
    have hol2:(openX T.2).L.length≤100000:=by unfold openX;omega
    refine xuse [DevObj (some ⟨b,0,none⟩) (dropM T.1 idxNew).1,LogObj (some ⟨b1,0,none⟩) (some ⟨b,0,none⟩) T.2,IdxObj q2 (some ⟨b,0,none⟩) (some ⟨b1,0,none⟩) (openX T.2),Blk bs [s0.v,.int .i64 to,s2.v]] ?_
    refine xloop1 (fun n (x:Int) As'=>∃ k:Nat,x=(k:Int)∧n=ys.length - k∧k≤ys.length∧As'=[DevObj (some ⟨b,0,none⟩) (dropM T.1 idxNew).1,LogObj (some ⟨b1,0,none⟩) (some ⟨b,0,none⟩) T.2,IdxObj q2 (some ⟨b,0,none⟩) (some ⟨b1,0,none⟩) (addAll (openX T.2) (ys.take k)),Blk bs [s0.v,.int .i64 to,s2.v]]) ys.length ⟨0,rfl,rfl,by omega,rfl⟩ ?_
    rintro n x As' K ⟨k2,rfl,rfl,hk2,rfl⟩ hK
    refine xget (h:=xif_dec (fun h=>?_) (fun h=>?_))
    · have hlt:k2<ys.length:=by omega
      have hy:=List.getElem?_eq_getElem hlt
      refine xdraw (xget (h:=?_))
      refine xidxn (E:=KE) (xs:=ys) (s:=s2) (h1:=hlt) (h:=fun _ _=>?_)
      refine xgetE (E:=KE) (xs:=ys) hy (h:=xget (h:=?_))
      refine xidxn (E:=KE) (xs:=ys) (s:=s2) (h1:=hlt) (h:=fun _ _=>?_)
      refine xgetEj (E:=KE) (xs:=ys) hy (h:=?_)
      have hal:=addAll_len (ys.take k2) (openX T.2)
      have hal2:(ys.take k2).length≤ys.length:=by simp;omega
      refine xcl (iAdd_spec q2 (some ⟨b,0,none⟩) (some ⟨b1,0,none⟩) (addAll (openX T.2) (ys.take k2)) ys[k2] (by omega)) rdb ?_
      rintro ⟨t,_⟩ _ rfl
      refine app1 (ca1 ?_)
      have e9:addX (addAll (openX T.2) (ys.take k2)) ys[k2]=addAll (openX T.2) (ys.take (k2+1)):=by
        rw [List.take_add_one,hy];exact (addAll_snoc _ _ _).symm
      rw [e9,wrap_succ k2 (by omega)]
      exact xuse' (hK (ys.length - (k2+1)) _ _ (by omega) ⟨k2+1,rfl,rfl,by omega,rfl⟩)
    · rw [List.take_of_length_le (l:=ys) (by omega)]
      exact xuse [DevObj (some ⟨b,0,none⟩) (dropM T.1 idxNew).1,LogObj (some ⟨b1,0,none⟩) (some ⟨b,0,none⟩) T.2,IdxObj q2 (some ⟨b,0,none⟩) (some ⟨b1,0,none⟩) (addAll (openX T.2) ys)] (xret ⟨rfl,_,_,rfl⟩)
abbrev aB:ByteArray:=⟨#[97]⟩
abbrev smp (t:Int):RE:=⟨1,t,aB,1,0⟩
theorem sample26_spec (t:Int):Ct Pr F_law26_sample [.int .i64 t] .one [.slice] [] emp (fun r Bs=>Bs=[Ar U8 r.1 (putE (smp t)).1]):=by
  refine spec1 c_law26_sample fun B _=>?_
  unfold law26_sample
  refine xcall0 (Put_rec (smp t) (by show (1:Nat)≤1000000;decide)) rdb ?_
  rintro ⟨s,r,_⟩ _ ⟨_,rfl⟩
  exact app1 (ca2 (xret rfl))
abbrev wps:List (List UInt8):=[(putE (smp 5)).1,(putE (smp 3)).1,(putE (smp 5)).1]
theorem three_spec:Ct Pr F_law26_three [] .agg [.slice,.int .i64,.slice] [] emp (fun r Bs=>r.2.1=0∧r.2.2.1=⟨none,0,0⟩∧∃ s1 s2 s3,Bs=[Ar SL r.1 [s1,s2,s3],Ar U8 s1 (putE (smp 5)).1,Ar U8 s2 (putE (smp 3)).1,Ar U8 s3 (putE (smp 5)).1]):=by
  refine spec3 c_law26_three fun B _=>?_
  unfold law26_three
  refine xnew fun b=>?_
  refine xcall0 (sample26_spec 5) rdb ?_
  rintro ⟨s1,_⟩ _ rfl
  refine app1 (ca1 ?_)
  refine xcall0 (sample26_spec 3) rdb ?_
  rintro ⟨s2,_⟩ _ rfl
  refine app1 (ca1 ?_)
  refine xcall0 (sample26_spec 5) rdb ?_
  rintro ⟨s3,_⟩ _ rfl
  refine app1 (ca1 (xnew fun b1=>?_))
  simp only
  refine xset (h:=xset (h:=xset (h:=?_)))
  refine xget (s:=.slice) (x:=⟨some ⟨b1,0,none⟩,3,3⟩) (h:=xget (h:=xget (s:=.slice) (x:=⟨none,0,0⟩) (h:=?_)))
  refine xfold [Blk b1 [s1.v,s2.v,s3.v]] (Ar SL ⟨some ⟨b1,0,none⟩,3,3⟩ [s1,s2,s3]) (fun g hg=>?_) ?_
  · obtain ⟨a,_,pa,_,_,sa,_⟩:=hg
    obtain ⟨e,fr,hb,hf⟩:=pa
    exact ⟨[],blk_ar [s1,s2,s3] 3 rfl rfl ⟨e,fr,sa _ _ hb,hf⟩⟩
  exact xuse [Ar SL ⟨some ⟨b1,0,none⟩,3,3⟩ [s1,s2,s3],Ar U8 s1 (putE (smp 5)).1,Ar U8 s2 (putE (smp 3)).1,Ar U8 s3 (putE (smp 5)).1] (xret ⟨rfl,rfl,s1,s2,s3,rfl⟩)
theorem SameWords_spec (a b:Sl) (xs ys:List Int) (hm:xs.length≤140737488355328) :
    Ct Pr F_kit_SameWords [a.v,b.v] .one [.bool] [] ((RAr W16 a xs).and (RAr W16 b ys)) (fun t Bs=>t.1=decide (xs=ys)∧Bs=[]):=by
  refine spec1 c_kit_SameWords fun B hr=>?_
  have fa:Fro B a W16 xs:=⟨hr.1⟩
  have fb:Fro B b W16 ys:=⟨hr.2⟩
  have ha:=hr.1.1
  have hb:=hr.2.1
  unfold kit_SameWords
  refine xif (fun h=>?_) (fun h=>?_)
  · refine xret ⟨?_,rfl⟩
    have:xs≠ys:=fun e=>by subst e;simp [←ha,←hb] at h
    simp [this]
  · have hl:xs.length=ys.length:=by simp at h;omega
    refine xloop1 (fun n i As=>∃ k:Nat,i=(k:Int)∧n=xs.length - k∧k≤xs.length∧xs.take k=ys.take k∧As=[]) xs.length ⟨0,rfl,rfl,by omega,rfl,rfl⟩ ?_
    rintro n _ _ K ⟨k,rfl,rfl,hk,he,rfl⟩ hK
    refine xif_dec (fun h=>?_) (fun h=>?_)
    · refine xdraw (xidxn rfl (by omega) fun x hx=>xgetE hx rfl rfl (xidxn rfl (by omega) fun y hy=>xgetE hy rfl rfl ?_))
      refine xif (fun h=>?_) (fun h=>?_)
      · refine xret ⟨?_,rfl⟩
        have:xs≠ys:=fun e=>by subst e;rw [hx] at hy;simp at hy h;exact h hy
        simp [this]
      · rw [wrap_succ k (by omega)]
        refine hK (xs.length - (k+1)) _ _ (by omega) ⟨k+1,rfl,rfl,by omega,?_,rfl⟩
        rw [List.take_add_one,List.take_add_one,he,hx,hy]
        simp at h
        rw [h]
    · have:k=xs.length:=by omega
      subst this
      rw [List.take_of_length_le (Nat.le_refl _),List.take_of_length_le (by omega)] at he
      exact xret ⟨by simp [he],rfl⟩
theorem kn26a:dropsL (laidL wps).2 0 1=0∧(laidL wps).2.next - (laidL wps).2.lo≤100000:=by decide +kernel
theorem kn26b:(openX (laidL wps).2).L=[(3,1),(5,0),(5,2)]:=by decide +kernel
theorem kn26c:(fileM (laidL wps).2 (openX (laidL wps).2) 10 1).2=0∧(fileM (laidL wps).2 (openX (laidL wps).2) 10 1).1.length=66∧(fileM (laidL wps).2 (openX (laidL wps).2) 10 1).1.take 7=[0,0,3,0,0,1,1]:=by decide +kernel
theorem kn26d:(fileM (laidL wps).2 (openX (laidL wps).2) 4 2).2=0∧(fileM (laidL wps).2 (openX (laidL wps).2) 4 2).1.length=44:=by decide +kernel
end Go.Cx
namespace Go.Cx
open Go Go.Cf
set_option linter.unusedVariables false
set_option maxRecDepth 100000
variable {B:Base}{As F:List HP}
theorem works26_spec:Ct Pr F_law26_works [] .one [.bool] [] GTab (fun t Bs=>t.1=true∧Bs=[]):=by
  refine spec1 c_law26_works fun B hr=>?_
  haveI:FroP B GTab:=⟨hr,fun _ _ h s=>GTab.mono _ _ h s⟩
  unfold law26_works
  refine xcall0 three_spec rdb ?_
  rintro ⟨s0,z,s2,_⟩ _ ⟨hz,hs2,r1,r2,r3,rfl⟩
  simp only at hz hs2;subst hz hs2
  refine app4 (ca3 ?_)
  simp only
  have hrows:Rds B [Ar SL s0 [r1,r2,r3],Ar U8 r1 (putE (smp 5)).1,Ar U8 r2 (putE (smp 3)).1,Ar U8 r3 (putE (smp 5)).1] (RowsAt s0 [r1,r2,r3] wps):=by
    refine rds_of fun g hg hF hs hm=>?_
    obtain ⟨a1,c1,p1,⟨a2,c2,p2,⟨a3,c3,p3,⟨a4,c4,p4,_,_,t4,_⟩,_,t3,u3⟩,_,t2,u2⟩,_,t1,u1⟩:=hs
    refine ⟨p1.read.mono (t1.trans hm),rfl,fun i r x hr hx=>?_⟩
    have q2:=p2.read.mono (t2.trans (u1.trans hm))
    have q3:=p3.read.mono (t3.trans (u2.trans (u1.trans hm)))
    have q4:=p4.read.mono (t4.trans (u3.trans (u2.trans (u1.trans hm))))
    rcases i with _ | _ | _ | i
    · obtain rfl:=Option.some.inj hr;obtain rfl:=Option.some.inj hx;exact q2
    · obtain rfl:=Option.some.inj hr;obtain rfl:=Option.some.inj hx;exact q3
    · obtain rfl:=Option.some.inj hr;obtain rfl:=Option.some.inj hx;exact q4
    · simp at hr
  have hnil:Rds B [Ar SL s0 [r1,r2,r3],Ar U8 r1 (putE (smp 5)).1,Ar U8 r2 (putE (smp 3)).1,Ar U8 r3 (putE (smp 5)).1] (RAr KE ⟨none,0,0⟩ []):=rds_of fun _ _ _ _ _=>⟨rfl,rfl,fun h=>absurd h (Nat.lt_irrefl 0)⟩
  obtain ⟨k1,k2⟩:=kn26a
  obtain ⟨gs,safe,f1,f2,f3,f4,f5⟩:=laidL_rel wps (by decide)
  refine xcall0 (laid26_spec s0 [r1,r2,r3] wps 0 ⟨none,0,0⟩ [] (by decide) (by decide) (laidL wps) (fun q p=>Ct.rdw (Trim0_spec q p (laidL wps).1 (laidL wps).2 0 f5 k1) fun _ _=>trivial) f5 f4 k2) (rds_and (rds_and hrows hnil) rdb) ?_
  rintro ⟨l,x,c,_⟩ _ ⟨hc,d,m,rfl⟩
  simp only at hc;subst hc
  have hL:=kn26b
  obtain ⟨c1,c2,c3⟩:=kn26c
  obtain ⟨d1,d2⟩:=kn26d
  refine app3 (ca3 (xiff rfl ?_))
  rw [show addAll (openX (laidL wps).2) []=openX (laidL wps).2 from rfl]
  simp only
  have hXl:(openX (laidL wps).2).L.length≤1000000:=by rw [hL];decide
  have hXi:∀ y∈(openX (laidL wps).2).L,i64 y.2:=by
    rw [hL];intro y hy
    simp only [List.mem_cons,List.not_mem_nil,or_false] at hy
    rcases hy with rfl | rfl | rfl<;>exact ⟨by decide,by decide⟩
  refine xuse [LogObj l d (laidL wps).2,IdxObj x d l (openX (laidL wps).2)] ?_
  refine xcl (File_spec l x d (laidL wps).2 (openX (laidL wps).2) 10 1 hXl hXi) rdb ?_
  rintro ⟨w,e,_⟩ _ ⟨he,rfl⟩
  simp only [c1] at he;subst he
  refine app3 (ca2 ?_)
  refine xcl (File_spec l x d (laidL wps).2 (openX (laidL wps).2) 4 2 hXl hXi) rdb ?_
  rintro ⟨v,e,_⟩ _ ⟨he,rfl⟩
  simp only [d1] at he;subst he
  refine app3 (ca2 ?_)
  simp only
  generalize hw:(fileM (laidL wps).2 (openX (laidL wps).2) 10 1).1=ws at *
  generalize hv:(fileM (laidL wps).2 (openX (laidL wps).2) 4 2).1=vs at *
  refine xlen (E:=W16) (xs:=ws) w fun hwn hwc=>?_
  refine xlen (E:=W16) (xs:=vs) v fun hvn _=>?_
  refine xjoin (xift (by rw [←hwn,c2];rfl) ?_)
  refine xslc (by decide) (by decide) (by omega) (by omega) ?_
  refine xnew fun bb=>?_
  refine xfold1 0 (Q:=Ar W16 ⟨some ⟨bb,0,none⟩,7,7⟩ [0,0,3,0,0,1,1]) (fun g hg=>⟨[],blk_ar [0,0,3,0,0,1,1] 7 rfl rfl hg⟩) ?_
  simp only [Int.toNat_natCast]
  have hcut:Rds B [Ar W16 ⟨some ⟨bb,0,none⟩,7,7⟩ [0,0,3,0,0,1,1],LogObj l d (laidL wps).2,IdxObj x d l (openX (laidL wps).2),Ar W16 v vs,Ar W16 w ws] (RAr W16 (w.cut (Int.toNat 0) (Int.toNat 7) w.c 1) [0,0,3,0,0,1,1]):=by
    refine rds_of fun g hg hF hs hm=>?_
    have hs:=star_perm (inferInstance:Find (Ar W16 w ws) [Ar W16 ⟨some ⟨bb,0,none⟩,7,7⟩ [0,0,3,0,0,1,1],LogObj l d (laidL wps).2,IdxObj x d l (openX (laidL wps).2),Ar W16 v vs,Ar W16 w ws] _).perm hs
    obtain ⟨a1,_,p1,_,_,t1,_⟩:=hs
    have:=(p1.read.mono (t1.trans hm)).cut 0 7 w.c (by decide) (by omega) (by omega)
    rw [List.drop_zero,c3] at this
    exact this
  refine xuse [Ar W16 ⟨some ⟨bb,0,none⟩,7,7⟩ [0,0,3,0,0,1,1],LogObj l d (laidL wps).2,IdxObj x d l (openX (laidL wps).2),Ar W16 v vs,Ar W16 w ws] ?_
  refine xcall0 (SameWords_spec (w.cut (Int.toNat 0) (Int.toNat 7) w.c 1) ⟨some ⟨bb,0,none⟩,7,7⟩ [0,0,3,0,0,1,1] [0,0,3,0,0,1,1] (by decide)) (rds_and hcut rdb) ?_
  rintro ⟨c,_⟩ _ ⟨hc,rfl⟩
  obtain rfl:c=true:=by rw [show c=_ from hc];rfl
  refine app0 (ca1 (xkeep (l:=[]) (xret ⟨?_,rfl⟩)))
  rw [←hvn,d2];rfl
theorem pairW4 (N:Nat):pairW (be8 N)=[((N / 281474976710656 % 65536:Nat):Int),((N / 4294967296 % 65536:Nat):Int),((N / 65536 % 65536:Nat):Int),((N % 65536:Nat):Int)]:=by
  have e:be8 N=[UInt8.ofNat (N / 256 ^ 7),UInt8.ofNat (N / 256 ^ 6),UInt8.ofNat (N / 256 ^ 5),UInt8.ofNat (N / 256 ^ 4),UInt8.ofNat (N / 256 ^ 3),UInt8.ofNat (N / 256 ^ 2),UInt8.ofNat (N / 256 ^ 1),UInt8.ofNat (N / 256 ^ 0)]:=rfl
  rw [e]
  simp only [pairW,UInt8.toNat_ofNat',Nat.reducePow]
  congr 1
  · omega
  congr 1
  · omega
  congr 1
  · omega
  congr 1
  omega
theorem u64N_nat {v:Int}(h0:0≤v) (h1:v<18446744073709551616):(u64N v:Int)=v:=by
  have e1:(2 ^ IntKind.u64.bits:Int)=18446744073709551616:=by decide
  have e3:IntKind.u64.signed=false:=rfl
  rw [←(u64N_lt v).2]
  simp only [IntKind.wrap,e1,e3,Bool.false_and]
  simp
  omega
theorem i64_u64 {v:Int}(h:i64 v):IntKind.i64.wrap (u64N v:Int)=v:=by
  have e1:(2 ^ IntKind.u64.bits:Int)=18446744073709551616:=by decide
  have e3:IntKind.u64.signed=false:=rfl
  have f1:(2 ^ IntKind.i64.bits:Int)=18446744073709551616:=by decide
  have f2:(2 ^ (IntKind.i64.bits - 1):Int)=9223372036854775808:=by decide
  have f3:IntKind.i64.signed=true:=rfl
  obtain ⟨h1,h2⟩:=h
  rw [←(u64N_lt v).2]
  simp only [IntKind.wrap,e1,e3,f1,f2,f3,Bool.false_and,Bool.true_and,decide_eq_true_eq]
  simp
  split<;>omega
theorem byW_pair (a b:UInt8):byW ((a.toNat*256+b.toNat:Nat):Int)=(if a≠0 then [a] else [])++(if b≠0 then [b] else []):=by
  have ha:=u8_lt a
  have hb:=u8_lt b
  have e1:hiB ((a.toNat*256+b.toNat:Nat):Int)=(a.toNat:Int):=by
    unfold hiB
    rw [shr_eq _ _ 256 (by decide)]
    congr 1;omega
  have e2:loB ((a.toNat*256+b.toNat:Nat):Int)=(b.toNat:Int):=by
    unfold loB
    rw [show (255:Int)=((255:Nat):Int) from rfl,u16_and_nat _ _ (by omega) (by decide)]
    congr 1
    rw [show (255:Nat)=2 ^ 8 - 1 from rfl,Nat.and_two_pow_sub_one_eq_mod];omega
  have e3:byU (a.toNat:Int)=a:=by
    have:=byU_toNat (a.toNat:Int)
    have e:IntKind.u8.wrap (a.toNat:Int)=(a.toNat:Int):=by
      have q1:(2 ^ IntKind.u8.bits:Int)=256:=by decide
      have q3:IntKind.u8.signed=false:=rfl
      simp only [IntKind.wrap,q1,q3,Bool.false_and]
      simp;omega
    rw [e] at this
    exact UInt8.toNat_inj.1 (by omega)
  have e4:byU ((a.toNat*256+b.toNat:Nat):Int)=b:=by
    have:=byU_toNat ((a.toNat*256+b.toNat:Nat):Int)
    have e:IntKind.u8.wrap ((a.toNat*256+b.toNat:Nat):Int)=(b.toNat:Int):=by
      have q1:(2 ^ IntKind.u8.bits:Int)=256:=by decide
      have q3:IntKind.u8.signed=false:=rfl
      simp only [IntKind.wrap,q1,q3,Bool.false_and]
      simp;omega
    rw [e] at this
    exact UInt8.toNat_inj.1 (by omega)
  have z:∀ u:UInt8,(u.toNat:Int)≠0↔u≠0:=fun u=>by
    constructor
    · intro h e;subst e;exact h rfl
    · intro h e;exact h (UInt8.toNat_inj.1 (by simpa using e))
  unfold byW
  rw [e1,e2,e3,e4]
  congr 1
  · by_cases h:a≠0
    · rw [if_pos h,if_pos ((z a).2 h)]
    · rw [if_neg h,if_neg (fun h2=>h ((z a).1 h2))]
  · by_cases h:b≠0
    · rw [if_pos h,if_pos ((z b).2 h)]
    · rw [if_neg h,if_neg (fun h2=>h ((z b).1 h2))]
theorem bytesW_pair:∀ (xs:List UInt8),xs.length % 2=0→bytesW (pairW xs)=xs.filter (· ≠ 0)
  | [],_=>rfl
  | [_],h=>by simp at h
  | a::b::r,h=>by
    have ih:=bytesW_pair r (by simp only [List.length_cons] at h;omega)
    show byW ((a.toNat*256+b.toNat:Nat):Int)++bytesW (pairW r)=_
    rw [byW_pair,ih]
    by_cases h1:a≠0<;>by_cases h2:b≠0<;>simp_all
theorem pairW_word:∀ (xs:List UInt8),∀ x∈pairW xs,word x
  | [],x,h=>by simp [pairW] at h
  | [_],x,h=>by simp [pairW] at h
  | a::b::r,x,h=>by
    have ha:=u8_lt a
    have hb:=u8_lt b
    rcases List.mem_cons.1 (show x∈((a.toNat*256+b.toNat:Nat):Int)::pairW r from h) with rfl | h
    · constructor<;>omega
    · exact pairW_word r x h
theorem ok_nonzero {s:ByteArray}(h:nameOk s=true):s.size≤16∧∀ b∈s.data.toList,b≠0:=by
  unfold nameOk at h
  simp only [Bool.and_eq_true,decide_eq_true_eq,List.all_eq_true,List.mem_range] at h
  refine ⟨h.1.2,fun b hb e=>?_⟩
  subst e
  obtain ⟨i,hi⟩:=List.getElem?_of_mem hb
  have hlt:i<s.size:=by have:=(List.getElem?_eq_some_iff.1 hi).1;simpa using this
  have:=h.2 i hlt
  unfold okAt at this
  rw [hi] at this
  simp [letterB,moreB] at this
theorem text_back {s:ByteArray}(h1:s.size≤16) (h2:∀ b∈s.data.toList,b≠0):BA (bytesW (pairW (textB s)))=s:=by
  have hl:s.data.toList.length=s.size:=by simp
  rw [bytesW_pair _ (by rw [textB_len])]
  have e:(textB s).filter (· ≠ 0)=s.data.toList:=by
    unfold textB
    rw [Nat.min_eq_left h1,List.take_of_length_le (by omega),List.filter_append,List.filter_eq_self.2 (fun b hb=>by simpa using h2 b hb),List.drop_replicate]
    have:(List.replicate (16 - s.size) (0:UInt8)).filter (· ≠ 0)=[]:=List.filter_eq_nil_iff.2 fun b hb=>by rw [(List.mem_replicate.1 hb).2];simp
    rw [this,List.append_nil]
  rw [e]
  cases s;simp [BA]
theorem empty_of {s:ByteArray}(h:(s.toList == ByteArray.empty.toList)=true):s=ByteArray.empty:=ba_toList_inj (eq_of_beq h)
theorem kindR_of {k:Int}{tg vl ids:Bool}{lo hi:Int}(h:kindR k=some (tg,vl,ids,lo,hi)):1≤k∧k≤6∧-1099511627776≤lo∧hi≤1099511627776:=by
  unfold kindR at h
  split at h
  · simp only [Option.some.injEq,Prod.mk.injEq] at h;omega
  split at h
  · simp only [Option.some.injEq,Prod.mk.injEq] at h;omega
  split at h
  · simp only [Option.some.injEq,Prod.mk.injEq] at h;omega
  split at h
  · simp only [Option.some.injEq,Prod.mk.injEq] at h;omega
  split at h
  · simp only [Option.some.injEq,Prod.mk.injEq] at h;omega
  · cases h
theorem check_facts {r:RE}(h:checkR r=0):(1≤r.kind∧r.kind≤6)∧(0≤r.time∧r.time≤1099511627776)∧(-1099511627776≤r.val∧r.val≤1099511627776)∧(0≤r.id∧r.id≤1099511627776)∧r.tag.size≤16∧∀ b∈r.tag.data.toList,b≠0:=by
  have ht:=checkR_time h
  unfold checkR at h
  cases hk:kindR r.kind with
  | none=>rw [hk] at h;cases h
  | some v=>
    obtain ⟨tg,vl,ids,lo,hi⟩:=v
    rw [hk] at h
    obtain ⟨k1,k2,k3,k4⟩:=kindR_of hk
    simp only at h
    split at h
    · cases h
    rename_i h1
    split at h
    · cases h
    split at h
    · cases h
    rename_i h3
    split at h
    · cases h
    rename_i h4
    simp only [Bool.or_eq_true,not_or,Bool.and_eq_true,not_and,Bool.not_eq_true',bne_iff_ne,ne_eq,Decidable.not_not,Bool.not_eq_true] at h1 h3 h4
    refine ⟨⟨k1,k2⟩,ht,?_,?_,?_⟩
    · cases vl with
      | false=>have:=h1.2.1 rfl;omega
      | true=>
        have:=h4.1 rfl
        simp only [withinB,Bool.not_eq_false',Bool.and_eq_true,decide_eq_true_eq,Bool.not_eq_false] at this
        omega
    · cases ids with
      | false=>have:=h1.2.2 rfl;omega
      | true=>
        have:=h4.2 rfl
        simp only [withinB,Bool.not_eq_false',Bool.and_eq_true,decide_eq_true_eq,Bool.not_eq_false] at this
        omega
    · cases tg with
      | true=>
        have:=h3 rfl
        exact ok_nonzero (by simpa using this)
      | false=>
        have:=h1.1 rfl
        have e:=empty_of (s:=r.tag) (by simpa using this)
        rw [e]
        exact ⟨by decide,fun b hb=>by simp at hb⟩
theorem row_told {seq:Int}{r:RE}(hs:0≤seq∧seq≤1099511627776) (hc:checkR r=0):toldM (rowM seq r)=(seq,r)∧(∀ x∈rowM seq r,word x):=by
  obtain ⟨⟨k1,k2⟩,⟨t1,t2⟩,⟨v1,v2⟩,⟨i1,i2⟩,g1,g2⟩:=check_facts hc
  have et:=u64N_nat (v:=r.time) t1 (by omega)
  have es:=u64N_nat (v:=seq) hs.1 (by omega)
  have ek:=u64N_nat (v:=r.kind) (by omega) (by omega)
  have ei:=u64N_nat (v:=r.id) i1 (by omega)
  have ev:=i64_u64 (v:=r.val) ⟨by omega,by omega⟩
  have lv:=(u64N_lt r.val).1
  have hT:∀ x∈pairW (textB r.tag),word x:=pairW_word _
  have hrow:rowM seq r=[((u64N r.time / 4294967296 % 65536:Nat):Int),((u64N r.time / 65536 % 65536:Nat):Int),((u64N r.time % 65536:Nat):Int),((u64N seq / 4294967296 % 65536:Nat):Int),((u64N seq / 65536 % 65536:Nat):Int),((u64N seq % 65536:Nat):Int),((u64N r.kind % 65536:Nat):Int),
      ((u64N r.val / 281474976710656 % 65536:Nat):Int),((u64N r.val / 4294967296 % 65536:Nat):Int),((u64N r.val / 65536 % 65536:Nat):Int),((u64N r.val % 65536:Nat):Int),((u64N r.id / 4294967296 % 65536:Nat):Int),((u64N r.id / 65536 % 65536:Nat):Int),((u64N r.id % 65536:Nat):Int)]++pairW (textB r.tag):=by
    unfold rowM wideM
    rw [pairW4,pairW4,pairW4,pairW4,pairW4]
    simp
  generalize u64N r.time=T at *
  generalize u64N seq=S at *
  generalize u64N r.kind=K at *
  generalize u64N r.val=V at *
  generalize u64N r.id=I at *
  rw [hrow]
  constructor
  · have n1:numW [((T / 4294967296 % 65536:Nat):Int),((T / 65536 % 65536:Nat):Int),((T % 65536:Nat):Int)]=T:=by simp only [numW,List.foldl_cons,List.foldl_nil,Int.toNat_natCast];omega
    have n2:numW [((S / 4294967296 % 65536:Nat):Int),((S / 65536 % 65536:Nat):Int),((S % 65536:Nat):Int)]=S:=by simp only [numW,List.foldl_cons,List.foldl_nil,Int.toNat_natCast];omega
    have n3:numW [((I / 4294967296 % 65536:Nat):Int),((I / 65536 % 65536:Nat):Int),((I % 65536:Nat):Int)]=I:=by simp only [numW,List.foldl_cons,List.foldl_nil,Int.toNat_natCast];omega
    have n4:numW [((V / 281474976710656 % 65536:Nat):Int),((V / 4294967296 % 65536:Nat):Int),((V / 65536 % 65536:Nat):Int),((V % 65536:Nat):Int)]=V:=by simp only [numW,List.foldl_cons,List.foldl_nil,Int.toNat_natCast];omega
    show (IntKind.i64.wrap (numW [((S / 4294967296 % 65536:Nat):Int),((S / 65536 % 65536:Nat):Int),((S % 65536:Nat):Int)]:Int),(⟨((K % 65536:Nat):Int),IntKind.i64.wrap (numW [((T / 4294967296 % 65536:Nat):Int),((T / 65536 % 65536:Nat):Int),((T % 65536:Nat):Int)]:Int),BA (bytesW (pairW (textB r.tag))),
      IntKind.i64.wrap (numW [((V / 281474976710656 % 65536:Nat):Int),((V / 4294967296 % 65536:Nat):Int),((V / 65536 % 65536:Nat):Int),((V % 65536:Nat):Int)]:Int),IntKind.i64.wrap (numW [((I / 4294967296 % 65536:Nat):Int),((I / 65536 % 65536:Nat):Int),((I % 65536:Nat):Int)]:Int)⟩:RE))=(seq,r)
    rw [n1,n2,n3,n4,text_back g1 g2,ev,wrap_id (S:Int) (by omega) (by omega),wrap_id (T:Int) (by omega) (by omega),wrap_id (I:Int) (by omega) (by omega),et,es,ei]
    have:((K % 65536:Nat):Int)=r.kind:=by omega
    rw [this]
  · intro x hx
    rcases List.mem_append.1 hx with h | h
    · simp only [List.mem_cons,List.not_mem_nil,or_false] at h
      rcases h with rfl | rfl | rfl | rfl | rfl | rfl | rfl | rfl | rfl | rfl | rfl | rfl | rfl | rfl <;> (constructor<;>omega)
    · exact hT x h
end Go.Cx
namespace Go.Cx
open Go Go.Cf
set_option linter.unusedVariables false
set_option maxRecDepth 100000
variable {B:Base}{As F:List HP}
theorem ba_beq (x:ByteArray):(x == x)=true:=by
  obtain ⟨d⟩:=x
  exact beq_self_eq_true d
end Go.Cx
namespace Go.Cx
open Go Go.Cf
set_option linter.unusedVariables false
set_option maxRecDepth 100000
variable {B:Base}{As F:List HP}
theorem letter_spec (b:UInt8):Ct Pr F_ref09_letter [.int .u8 b.toNat] .one [.bool] [] emp (fun r Bs=>r.1=letterB b∧Bs=[]):=by
  refine spec1 c_ref09_letter fun B _=>?_
  unfold ref09_letter
  refine xjoin (xif (fun h=>xret ⟨?_,rfl⟩) (fun h=>xret ⟨?_,rfl⟩))
  · symm;simp [letterB] at *;omega
  · rw [Bool.eq_iff_iff];simp [letterB] at *;omega
theorem NameRef_spec (s:ByteArray):Ct Pr F_ref09_Name [.string s] .one [.bool] [] emp (fun r Bs=>r.1=nameOk s∧Bs=[]):=by
  refine spec1 c_ref09_Name fun B _=>?_
  have fin:∀ {x:Bool}{As:List HP},x=nameOk s→Ent B As (Ret B (ss:=[.bool]) (fun r Bs=>r.1=nameOk s∧Bs=[]) (x,())):=fun h=>xkeep (l:=[]) (xret ⟨h,rfl⟩)
  unfold ref09_Name
  refine xjoin (xif (fun h0=>xift rfl (fin ?_)) (fun h0=>?_))
  · symm;unfold nameOk;simp at *;omega
  have hs:1≤s.size∧s.size≤16:=by simp at h0;omega
  obtain ⟨b,hb⟩:=byte_at (k:=0) (show 0<s.size by omega)
  refine xbyte (k:=0) rfl hb ?_
  refine xcall0 (letter_spec b) rdb ?_
  rintro ⟨x,_⟩ _ ⟨hx,rfl⟩
  simp only at hx;subst hx
  refine app0 (ca1 (xif (fun h1=>fin ?_) (fun h1=>?_)))
  · symm;refine nameOk_false (k:=0) (by omega) ?_
    simp only [okAt,hb];simpa using h1
  have h1:letterB b=true:=by simpa using h1
  refine xloop1 (fun n (x:Int) As'=>∃ k:Nat,x=(k:Int)∧n=s.size - k∧k≤s.size∧As'=[]∧∀ i,i<k→okAt s i=true) s.size ⟨0,rfl,by omega,by omega,rfl,fun i hi=>by omega⟩ ?_
  rintro n x As' K ⟨k,rfl,rfl,hk,rfl,hall⟩ hK
  refine xif_dec (fun hp=>?_) (fun hp=>fin ?_)
  · have hp:k<s.size:=by omega
    obtain ⟨c,hc⟩:=byte_at hp
    have next:okAt s k=true→Ent B [] (K (IntKind.i64.wrap ((k:Int)+1))):=fun h=>by
      rw [wrap_succ k (by omega)]
      exact hK (s.size - (k+1)) _ _ (by omega) ⟨k+1,rfl,rfl,by omega,rfl,fun i hi=>by
        by_cases e:i=k
        · subst e;exact h
        · exact hall i (by omega)⟩
    have hok:okAt s k=(letterB c||(decide (0<k)&&moreB c)):=by simp only [okAt,hc]
    refine xbyte (k:=k) rfl hc ?_
    refine xcall0 (letter_spec c) rdb ?_
    rintro ⟨x,_⟩ _ ⟨hx,rfl⟩
    simp only at hx;subst hx
    have h0k:letterB c=false→0<k:=fun e=>by
      rcases Nat.eq_zero_or_pos k with e0 | e0
      · subst e0;rw [hb] at hc;cases hc;rw [h1] at e;cases e
      · exact e0
    refine app0 (ca1 (xjoin (xif (fun h2=>xif (fun h3=>fin ?_) (fun h3=>next ?_)) (fun h2=>xiff rfl (next ?_)))))
    · have h2:letterB c=false:=by simpa using h2
      symm;refine nameOk_false hp ?_
      rw [hok,h2];simp [moreB] at *;omega
    · have h2:letterB c=false:=by simpa using h2
      have:=h0k h2
      rw [hok,h2];simp [moreB] at *;omega
    · rw [hok];have h2:letterB c=true:=by simpa using h2
      rw [h2];rfl
  · rw [nameOk_all (fun i hi=>hall i (by omega))];simp;omega
def loK (k:Int):Int:=if k=1 then -1099511627776 else if k=6 then 0 else 1
def hiK (k:Int):Int:=if k=2 then 4 else if k=6 then 255 else 1099511627776
theorem kindR_in {k:Int}(h1:1≤k) (h2:k≤6):kindR k=some ((k == 1||k == 2),(k != 5),(k == 5||k == 6),loK k,hiK k):=by
  have:k=1∨k=2∨k=3∨k=4∨k=5∨k=6:=by omega
  rcases this with rfl | rfl | rfl | rfl | rfl | rfl<;>decide
theorem kindR_out {k:Int}(h:k<1∨k>6):kindR k=none:=by
  unfold kindR
  rw [if_neg (by omega),if_neg (by omega),if_neg (by omega),if_neg (by omega),if_neg (by omega)]
theorem empty_size (s:ByteArray):(!(s.toList == ByteArray.empty.toList))=decide ((s.size:Int)>0):=by
  rw [ByteArray.toList_eq,empty_list]
  have:s.data.toList.length=s.size:=by simp
  cases h:s.data.toList with
  | nil=>rw [h] at this;rw [←this];rfl
  | cons x l=>rw [h] at this;rw [←this];symm;simp
theorem valueIn (k v:Int) (h1:1≤k) (h2:k≤6):(if k=1 then (decide (v≥(-1099511627776))&&decide (v≤1099511627776)) else if k=2 then (decide (v≥1)&&decide (v≤4)) else if k=6 then (decide (v≥0)&&decide (v≤255)) else (decide (v≥1)&&decide (v≤1099511627776)))=withinB v (loK k) (hiK k):=by
  have:k=1∨k=2∨k=3∨k=4∨k=5∨k=6:=by omega
  rcases this with rfl | rfl | rfl | rfl | rfl | rfl<;>rfl
theorem tagged_spec (k:Int):Ct Pr F_ref11_tagged [.int .i64 k] .one [.bool] [] emp (fun t Bs=>t.1=(k == 1||k == 2)∧Bs=[]):=by
  refine spec1 c_ref11_tagged fun B _=>?_
  unfold ref11_tagged
  exact xret ⟨rfl,rfl⟩
theorem valued_spec (k:Int):Ct Pr F_ref11_valued [.int .i64 k] .one [.bool] [] emp (fun t Bs=>t.1=(k != 5)∧Bs=[]):=by
  refine spec1 c_ref11_valued fun B _=>?_
  unfold ref11_valued
  exact xret ⟨rfl,rfl⟩
theorem named_spec11 (k:Int):Ct Pr F_ref11_named [.int .i64 k] .one [.bool] [] emp (fun t Bs=>t.1=(k == 5||k == 6)∧Bs=[]):=by
  refine spec1 c_ref11_named fun B _=>?_
  unfold ref11_named
  exact xret ⟨rfl,rfl⟩
theorem value_spec (k v:Int) (h1:1≤k) (h2:k≤6):Ct Pr F_ref11_value [.int .i64 k,.int .i64 v] .one [.bool] [] emp (fun t Bs=>t.1=withinB v (loK k) (hiK k)∧Bs=[]):=by
  refine spec1 c_ref11_value fun B _=>?_
  rw [←valueIn k v h1 h2]
  unfold ref11_value
  refine xif (fun h=>xret ⟨?_,rfl⟩) (fun h=>xif (fun h3=>xret ⟨?_,rfl⟩) (fun h3=>xif (fun h4=>xret ⟨?_,rfl⟩) (fun h4=>xret ⟨?_,rfl⟩)))
  · rw [if_pos (eq_of_beq h)]
  · rw [if_neg (by simpa using h),if_pos (eq_of_beq h3)]
  · rw [if_neg (by simpa using h),if_neg (by simpa using h3),if_pos (eq_of_beq h4)]
  · rw [if_neg (by simpa using h),if_neg (by simpa using h3),if_neg (by simpa using h4)]
theorem rCheck_spec (r:RE):Ct Pr F_ref11_Check [r.v] .one [.int .i64] [] emp (fun t Bs=>t.1=checkR r∧Bs=[]):=by
  refine spec1 c_ref11_Check fun B _=>?_
  have fin:∀ {x:Int}{As:List HP},x=checkR r→Ent B As (Ret B (ss:=[.int .i64]) (fun t Bs=>t.1=checkR r∧Bs=[]) (x,())):=fun h=>xkeep (l:=[]) (xret ⟨h,rfl⟩)
  unfold ref11_Check
  refine xnew fun b=>xget (h:=?_)
  refine xjoin1 (fun(x:Bool) As'=>x=decide (r.kind<1∨r.kind>6)∧As'=[Blk b r.cells]) (fun K hK=>xif_dec (fun h=>hK _ _ ⟨?_,rfl⟩) (fun h=>xget (h:=hK _ _ ⟨?_,rfl⟩))) ?_
  · symm;rw [decide_eq_true_eq];exact .inl h
  · have:decide (r.kind>6)=decide (r.kind<1∨r.kind>6):=by congr 1;apply propext;constructor<;>intro h2<;>omega
    exact this
  rintro _ _ ⟨rfl,rfl⟩
  refine xif_dec (fun h=>fin ?_) (fun h=>?_)
  · unfold checkR;rw [kindR_out h]
  have k1:1≤r.kind:=by omega
  have k2:r.kind≤6:=by omega
  have hc:checkR r=if ((!(r.kind == 1||r.kind == 2) && !(r.tag.toList == ByteArray.empty.toList))||((!(r.kind != 5)&&r.val != 0)||(!(r.kind == 5||r.kind == 6)&&r.id != 0)))=true then 23
    else if (!withinB r.time 0 1099511627776)=true then 3
    else if ((r.kind == 1||r.kind == 2) && !nameOk r.tag)=true then 8
    else if (((r.kind != 5) && !withinB r.val (loK r.kind) (hiK r.kind))||((r.kind == 5||r.kind == 6) && !withinB r.id 1 1099511627776))=true then 3
    else 0:=by unfold checkR;rw [kindR_in k1 k2]
  rw [empty_size] at hc
  have tg:∀ {As:List HP}{K:Bool→WP},Ent B As (K (r.kind == 1||r.kind == 2))→Ent B As (XCall Pr F_ref11_tagged [.int .i64 r.kind] .one [.bool] K):=by
    intro As K hK
    refine xcall0 (tagged_spec _) rdb ?_
    rintro ⟨x,_⟩ _ ⟨hx,rfl⟩
    simp only at hx;subst hx
    exact app0 (ca1 hK)
  have vl:∀ {As:List HP}{K:Bool→WP},Ent B As (K (r.kind != 5))→Ent B As (XCall Pr F_ref11_valued [.int .i64 r.kind] .one [.bool] K):=by
    intro As K hK
    refine xcall0 (valued_spec _) rdb ?_
    rintro ⟨x,_⟩ _ ⟨hx,rfl⟩
    simp only at hx;subst hx
    exact app0 (ca1 hK)
  have nm:∀ {As:List HP}{K:Bool→WP},Ent B As (K (r.kind == 5||r.kind == 6))→Ent B As (XCall Pr F_ref11_named [.int .i64 r.kind] .one [.bool] K):=by
    intro As K hK
    refine xcall0 (named_spec11 _) rdb ?_
    rintro ⟨x,_⟩ _ ⟨hx,rfl⟩
    simp only at hx;subst hx
    exact app0 (ca1 hK)
  generalize hT:(r.kind == 1||r.kind == 2)=T at *
  generalize hV:(r.kind != 5)=V at *
  generalize hN:(r.kind == 5||r.kind == 6)=N at *
  refine xget (h:=tg ?_)
  refine xjoin1 (fun(x:Bool) As'=>x=(!T&&decide ((r.tag.size:Int)>0))∧As'=[Blk b r.cells]) (fun K hK=>xif (fun h=>xget (h:=hK _ _ ⟨by rw [h];rfl,rfl⟩)) (fun h=>hK _ _ ⟨by rw [h];rfl,rfl⟩)) ?_
  rintro _ _ ⟨rfl,rfl⟩
  refine xjoin1 (fun(x:Bool) As'=>x=((!T&&decide ((r.tag.size:Int)>0))||(!V&&r.val != 0))∧As'=[Blk b r.cells]) (fun K hK=>xif (fun h=>hK _ _ ⟨by rw [h];rfl,rfl⟩) (fun h=>xget (h:=vl (xjoin (xif (fun h2=>xget (h:=hK _ _ ⟨by rw [h,h2];rfl,rfl⟩)) (fun h2=>hK _ _ ⟨by rw [h,h2];rfl,rfl⟩)))))) ?_
  rintro _ _ ⟨rfl,rfl⟩
  refine xjoin1 (fun(x:Bool) As'=>x=(((!T&&decide ((r.tag.size:Int)>0))||(!V&&r.val != 0))||(!N&&r.id != 0))∧As'=[Blk b r.cells]) (fun K hK=>xif (fun h=>hK _ _ ⟨by rw [h];rfl,rfl⟩) (fun h=>xget (h:=nm (xjoin (xif (fun h2=>xget (h:=hK _ _ ⟨by rw [h,h2];rfl,rfl⟩)) (fun h2=>hK _ _ ⟨by rw [h,h2];rfl,rfl⟩)))))) ?_
  rintro _ _ ⟨rfl,rfl⟩
  rw [←Bool.or_assoc] at hc
  refine xif (fun h=>fin (by rw [hc,if_pos h])) (fun h1=>xget (h:=?_))
  rw [if_neg (by rw [h1];simp)] at hc
  refine xjoin1 (fun(x:Bool) As'=>x=(!withinB r.time 0 1099511627776)∧As'=[Blk b r.cells]) (fun K hK=>xif_dec (fun h=>hK _ _ ⟨?_,rfl⟩) (fun h=>xget (h:=hK _ _ ⟨?_,rfl⟩))) ?_
  · symm;simp only [withinB,Bool.not_eq_true',Bool.and_eq_false_imp,decide_eq_true_eq,decide_eq_false_iff_not];omega
  · rw [Bool.eq_iff_iff];simp only [withinB,Bool.not_eq_true',Bool.and_eq_false_imp,decide_eq_true_eq,decide_eq_false_iff_not];omega
  rintro _ _ ⟨rfl,rfl⟩
  refine xif (fun h=>fin (by rw [hc,if_pos h])) (fun h2=>xget (h:=tg ?_))
  rw [if_neg (by rw [h2];simp)] at hc
  refine xjoin1 (fun(x:Bool) As'=>x=(T && !nameOk r.tag)∧As'=[Blk b r.cells]) (fun K hK=>xif (fun h=>xget (h:=?_)) (fun h=>hK _ _ ⟨by rw [h];rfl,rfl⟩)) ?_
  · refine xcall0 (NameRef_spec _) rdb ?_
    rintro ⟨x,_⟩ _ ⟨hx,rfl⟩
    simp only at hx;subst hx
    exact app0 (ca1 (hK _ _ ⟨by rw [h];rfl,rfl⟩))
  rintro _ _ ⟨rfl,rfl⟩
  refine xif (fun h=>fin (by rw [hc,if_pos h])) (fun h3=>xget (h:=vl ?_))
  rw [if_neg (by rw [h3];simp)] at hc
  refine xjoin1 (fun(x:Bool) As'=>x=(V && !withinB r.val (loK r.kind) (hiK r.kind))∧As'=[Blk b r.cells]) (fun K hK=>xif (fun h=>xget (h:=xget (h:=?_))) (fun h=>hK _ _ ⟨by rw [h];rfl,rfl⟩)) ?_
  · refine xcall0 (value_spec _ _ k1 k2) rdb ?_
    rintro ⟨x,_⟩ _ ⟨hx,rfl⟩
    simp only at hx;subst hx
    exact app0 (ca1 (hK _ _ ⟨by rw [h];rfl,rfl⟩))
  rintro _ _ ⟨rfl,rfl⟩
  refine xjoin1 (fun(x:Bool) As'=>x=((V && !withinB r.val (loK r.kind) (hiK r.kind))||(N && !withinB r.id 1 1099511627776))∧As'=[Blk b r.cells]) (fun K hK=>xif (fun h=>hK _ _ ⟨by rw [h];rfl,rfl⟩) (fun h=>xget (h:=nm (xjoin (xif (fun h4=>xget (h:=xjoin (xif_dec (fun h5=>hK _ _ ⟨?_,rfl⟩) (fun h5=>xget (h:=hK _ _ ⟨?_,rfl⟩))))) (fun h4=>hK _ _ ⟨by rw [h,h4];rfl,rfl⟩)))))) ?_
  · rw [h,h4];symm
    simp only [withinB,Bool.false_or,Bool.true_and,Bool.not_eq_true',Bool.and_eq_false_imp,decide_eq_true_eq,decide_eq_false_iff_not];omega
  · rw [h,h4,Bool.eq_iff_iff]
    simp only [withinB,Bool.false_or,Bool.true_and,Bool.not_eq_true',Bool.and_eq_false_imp,decide_eq_true_eq,decide_eq_false_iff_not];omega
  rintro _ _ ⟨rfl,rfl⟩
  exact xif (fun h=>fin (by rw [hc,if_pos h])) (fun h=>fin (by rw [hc,if_neg (by rw [h];simp)]))
end Go.Cx
namespace Go.Cx
open Go Go.Cf
set_option linter.unusedVariables false
set_option maxRecDepth 100000
variable {B:Base}{As F:List HP}
theorem w16_wrap (n:Nat):IntKind.u16.wrap (n:Int)=((n % 65536:Nat):Int):=by
  have q1:(2 ^ IntKind.u16.bits:Int)=65536:=by decide
  have q3:IntKind.u16.signed=false:=rfl
  simp only [IntKind.wrap,q1,q3,Bool.false_and]
  simp
theorem wide_get (N:Nat) {k j:Nat}(hk:k≤4) (hj:j<k):((pairW (be8 N)).drop (4 - k))[j]? = some ((N / 65536 ^ (k - 1 - j) % 65536:Nat):Int):=by
  rw [pairW4,List.getElem?_drop]
  have hk':k=1∨k=2∨k=3∨k=4:=by omega
  rcases hk' with rfl | rfl | rfl | rfl
  · obtain rfl:j=0:=by omega
    simp
  · have:j=0∨j=1:=by omega
    rcases this with rfl | rfl<;>simp
  · have:j=0∨j=1∨j=2:=by omega
    rcases this with rfl | rfl | rfl<;>simp
  · have:j=0∨j=1∨j=2∨j=3:=by omega
    rcases this with rfl | rfl | rfl | rfl<;>simp
theorem rwords_spec (v:Int) (k:Nat) (hk:k≤4):Ct Pr F_ref26_words [.int .u64 (IntKind.u64.wrap v),.int .i64 (k:Int)] .one [.slice] [] emp (fun t Bs=>Bs=[Ar W16 t.1 (wideM v k)]):=by
  refine spec1 c_ref26_words fun B _=>?_
  obtain ⟨h1,h2⟩:=u64N_lt v
  unfold ref26_words
  rw [h2,wrap_id ((k:Int) - 1) (by omega) (by omega)]
  generalize hN:u64N v=N at *
  have hwl:(wideM v k).length=k:=wideM_len v k hk
  have hw:wideM v k=(pairW (be8 N)).drop (4 - k):=by unfold wideM;rw [hN]
  refine xnone W16 ?_
  refine xloop2 (fun n (s:Sl) (i:Int) As'=>∃ j:Nat,i=(k:Int) - 1 - j∧n=k - j∧j≤k∧As'=[Ar W16 s ((wideM v k).take j)]) k ⟨0,by omega,rfl,by omega,by simp⟩ ?_
  rintro n s _ _ K ⟨j,rfl,rfl,hj,rfl⟩ hK
  refine xif_dec (fun h=>?_) (fun h=>?_)
  · have hjk:j<k:=by omega
    refine xloop2 (fun n (x:Int) (m:Int) As'=>∃ q:Nat,m=(q:Int)∧x=((N / 65536 ^ q:Nat):Int)∧n=k - 1 - j - q∧q≤k - 1 - j∧As'=[Ar W16 s ((wideM v k).take j)]) (k - 1 - j) ⟨0,rfl,by simp,rfl,by omega,rfl⟩ ?_
    rintro n _ _ _ K2 ⟨q,rfl,rfl,rfl,hq,rfl⟩ hK2
    refine xif_dec (fun h3=>?_) (fun h3=>?_)
    · have e:IntKind.u64.wrap (((N / 65536 ^ q:Nat):Int).tdiv 65536)=((N / 65536 ^ (q+1):Nat):Int):=by
        rw [Int.tdiv_eq_ediv_of_nonneg (Int.natCast_nonneg _),show ((N / 65536 ^ q:Nat):Int) / 65536=((N / 65536 ^ q / 65536:Nat):Int) from rfl,Nat.div_div_eq_div_mul,←Nat.pow_succ]
        refine wrap_u64 _ (Nat.lt_of_le_of_lt (Nat.div_le_self _ _) h1)
      refine xasrt (by decide) ?_
      rw [e,wrap_succ q (by omega)]
      exact hK2 (k - 1 - j - (q+1)) _ _ _ (by omega) ⟨q+1,rfl,rfl,rfl,by omega,rfl⟩
    · have hqe:q=k - 1 - j:=by omega
      subst hqe
      have e:IntKind.u16.wrap (((N / 65536 ^ (k - 1 - j):Nat):Int).tmod 65536)=((N / 65536 ^ (k - 1 - j) % 65536:Nat):Int):=by
        rw [Int.tmod_eq_emod_of_nonneg (Int.natCast_nonneg _),show ((N / 65536 ^ (k - 1 - j):Nat):Int) % 65536=((N / 65536 ^ (k - 1 - j) % 65536:Nat):Int) from rfl,w16_wrap,Nat.mod_mod]
      refine xasrt (by decide) ?_
      rw [e]
      refine xnew fun b=>?_
      refine xapp1 (E:=W16) ((N / 65536 ^ (k - 1 - j) % 65536:Nat):Int) (hb:=by simp;omega) (h:=fun s'=>?_)
      rw [wrap_id _ (by omega) (by omega)]
      refine hK (k - (j+1)) _ _ _ (by omega) ⟨j+1,by omega,rfl,by omega,?_⟩
      rw [List.take_add_one,hw,wide_get N hk hjk];rfl
  · have hje:j=k:=by omega
    rw [List.take_of_length_le (by omega)]
    exact xret rfl
theorem textB_get (s:ByteArray) {j:Nat}(hj:j<16):(textB s)[j]? = some (if j<s.size then s.data.toList.getD j 0 else 0):=by
  have hl:s.data.toList.length=s.size:=by simp
  unfold textB
  by_cases h:j<s.size
  · rw [if_pos h,List.getElem?_append_left (by rw [List.length_take,hl];omega),List.getElem?_take_of_lt (by omega),List.getD_eq_getElem?_getD]
    obtain ⟨x,hx⟩:∃ x,s.data.toList[j]? = some x:=⟨_,List.getElem?_eq_getElem (by omega)⟩
    rw [hx];rfl
  · rw [if_neg h,List.getElem?_append_right (by rw [List.length_take,hl];omega),List.length_take,hl,List.getElem?_drop,List.getElem?_replicate,if_pos (by omega)]
theorem rRow_spec (seq:Int) (r:RE):Ct Pr F_ref26_Row [.int .i64 seq,r.v] .one [.slice] [] emp (fun t Bs=>Bs=[Ar W16 t.1 (rowM seq r)]):=by
  refine spec1 c_ref26_Row fun B _=>?_
  unfold ref26_Row
  refine xnew fun b=>xget (h:=?_)
  have step:∀ {As:List HP}(v:Int) (k:Nat) (s:Sl) (ws:List Int) (_:k≤4) (_:ws.length≤100) {G:List HP} [q:Find (Ar W16 s ws) As G] {K:Sl→WP},(∀ s',Ent B (Ar W16 s' (ws++wideM v k)::G) (K s')) →
      Ent B As (XCall Pr F_ref26_words [.int .u64 (IntKind.u64.wrap v),.int .i64 (k:Int)] .one [.slice] fun s1=>XApp Pr T_L_uint16 T_L_uint16 T_L_uint16 s.v s1.v fun s2=>K s2):=by
    intro As v k s ws hk hws G q K hK
    refine Ent.perm q.perm ?_
    refine xcall0 (rwords_spec v k hk) rdb ?_
    rintro ⟨s1,_⟩ _ rfl
    refine app1 (ca1 ?_)
    have hl:=wideM_len v k hk
    refine xapp (E:=W16) (s:=s) (y:=s1) (xs:=ws) (ys:=wideM v k) (hb:=by omega) (h:=fun s2=>?_)
    exact xdrop 0 (hK s2)
  have l3:=fun v=>wideM_len v 3 (by decide)
  have l1:=fun v=>wideM_len v 1 (by decide)
  have l4:=fun v=>wideM_len v 4 (by decide)
  refine xnone W16 ?_
  refine step r.time 3 ⟨none,0,0⟩ [] (by decide) (by simp) fun s1=>?_
  refine step seq 3 s1 ([]++wideM r.time 3) (by decide) (by simp [l3]) fun s2=>xget (h:=?_)
  refine step r.kind 1 s2 ([]++wideM r.time 3++wideM seq 3) (by decide) (by simp [l3]) fun s3=>xget (h:=?_)
  refine step r.val 4 s3 ([]++wideM r.time 3++wideM seq 3++wideM r.kind 1) (by decide) (by simp [l3,l1]) fun s4=>xget (h:=?_)
  refine step r.id 3 s4 ([]++wideM r.time 3++wideM seq 3++wideM r.kind 1++wideM r.val 4) (by decide) (by simp [l3,l1,l4]) fun s5=>?_
  have hpre:([]++wideM r.time 3++wideM seq 3++wideM r.kind 1++wideM r.val 4++wideM r.id 3).length=14:=by simp [l3,l1,l4]
  have hrow:rowM seq r=([]++wideM r.time 3++wideM seq 3++wideM r.kind 1++wideM r.val 4++wideM r.id 3)++pairW (textB r.tag):=by unfold rowM;simp
  rw [hrow]
  generalize []++wideM r.time 3++wideM seq 3++wideM r.kind 1++wideM r.val 4++wideM r.id 3=pre at *
  have hpl:(pairW (textB r.tag)).length=8:=by rw [pairW_len,textB_len]
  refine xloop2 (fun n (s:Sl) (i:Int) As'=>∃ k:Nat,i=(k:Int)∧n=8 - k∧k≤8∧As'=[Ar W16 s (pre++(pairW (textB r.tag)).take k),Blk b r.cells]) 8 ⟨0,rfl,rfl,by omega,by simp⟩ ?_
  rintro n s _ _ K ⟨k,rfl,rfl,hk,rfl⟩ hK
  refine xif_dec (fun h=>?_) (fun h=>?_)
  · have hk8:k<8:=by omega
    have hsz:r.tag.data.toList.length=r.tag.size:=by simp
    have i1:IntKind.i64.wrap (2*(k:Int))=((2*k:Nat):Int):=by rw [wrap_id _ (by omega) (by omega)];omega
    rw [i1,wrap_succ (2*k) (by omega)]
    refine xget (h:=?_)
    refine xjoin1 (fun(x:Int) As'=>x=((if 2*k<r.tag.size then r.tag.data.toList.getD (2*k) 0 else 0:UInt8).toNat:Int)∧As'=[Ar W16 s (pre++(pairW (textB r.tag)).take k),Blk b r.cells]) (fun K1 hK1=>?_) ?_
    · refine xif_dec (fun h1=>?_) (fun h1=>?_)
      · obtain ⟨y,hy⟩:∃ y,r.tag.data.toList[2*k]? = some y:=⟨_,List.getElem?_eq_getElem (by omega)⟩
        have hy8:=u8_lt y
        refine xget (h:=xbyte (k:=2*k) rfl hy ?_)
        rw [wrap_id _ (by omega) (by omega)]
        refine hK1 _ _ ⟨?_,rfl⟩
        rw [if_pos (by omega),List.getD_eq_getElem?_getD,hy];rfl
      · refine hK1 _ _ ⟨?_,rfl⟩
        rw [if_neg (by omega)];rfl
    rintro _ _ ⟨rfl,rfl⟩
    refine xget (h:=?_)
    refine xjoin1 (fun(x:Int) As'=>x=((if 2*k+1<r.tag.size then r.tag.data.toList.getD (2*k+1) 0 else 0:UInt8).toNat:Int)∧As'=[Ar W16 s (pre++(pairW (textB r.tag)).take k),Blk b r.cells]) (fun K1 hK1=>?_) ?_
    · refine xif_dec (fun h1=>?_) (fun h1=>?_)
      · obtain ⟨y,hy⟩:∃ y,r.tag.data.toList[2*k+1]? = some y:=⟨_,List.getElem?_eq_getElem (by omega)⟩
        have hy8:=u8_lt y
        refine xget (h:=xbyte (k:=2*k+1) rfl hy ?_)
        rw [wrap_id _ (by omega) (by omega)]
        refine hK1 _ _ ⟨?_,rfl⟩
        rw [if_pos (by omega),List.getD_eq_getElem?_getD,hy];rfl
      · refine hK1 _ _ ⟨?_,rfl⟩
        rw [if_neg (by omega)];rfl
    rintro _ _ ⟨rfl,rfl⟩
    have ga:=textB_get r.tag (j:=2*k) (by omega)
    have gb:=textB_get r.tag (j:=2*k+1) (by omega)
    have gw:=pairW_get ga gb
    generalize (if 2*k<r.tag.size then r.tag.data.toList.getD (2*k) 0 else 0:UInt8)=ya at *
    generalize (if 2*k+1<r.tag.size then r.tag.data.toList.getD (2*k+1) 0 else 0:UInt8)=yb at *
    have h1:=u8_lt ya
    have h2:=u8_lt yb
    have e:IntKind.u16.wrap (IntKind.i64.wrap (IntKind.i64.wrap (256*(ya.toNat:Int))+(yb.toNat:Int)))=((ya.toNat*256+yb.toNat:Nat):Int):=by
      rw [wrap_id (256*(ya.toNat:Int)) (by omega) (by omega),wrap_id _ (by omega) (by omega),show 256*(ya.toNat:Int)+(yb.toNat:Int)=((ya.toNat*256+yb.toNat:Nat):Int) by omega,w16_wrap,Nat.mod_eq_of_lt (by omega)]
    rw [e]
    refine xnew fun b2=>?_
    refine xapp1 (E:=W16) ((ya.toNat*256+yb.toNat:Nat):Int) (hb:=by rw [List.length_append,List.length_take,hpre];omega) (h:=fun s'=>?_)
    rw [wrap_succ k (by omega)]
    refine hK (8 - (k+1)) _ _ _ (by omega) ⟨k+1,rfl,rfl,by omega,?_⟩
    rw [List.take_add_one,gw,List.append_assoc];rfl
  · rw [List.take_of_length_le (l:=pairW (textB r.tag)) (by omega)]
    exact xdrop 1 (xret rfl)
theorem rWords_spec (seq:Int) (r:RE):Ct Pr F_ref26_Words [.int .i64 seq,r.v] (.tup [none,none]) [.slice,.int .i64] [] emp (fun t Bs=>t.2.1=(wordsM seq r).2∧Bs=[Ar W16 t.1 (wordsM seq r).1]):=by
  refine spec2 c_ref26_Words fun B _=>?_
  unfold ref26_Words
  refine xnew fun b=>?_
  iterate 5 (refine xget (h:=?_))
  refine xcall0 (rCheck_spec r) rdb ?_
  rintro ⟨x,_⟩ _ ⟨hx,rfl⟩
  simp only at hx;subst hx
  refine app0 (ca1 (xif (fun h=>?_) (fun h=>?_)))
  · have e:wordsM seq r=([],checkR r):=by unfold wordsM;rw [if_pos (by simpa using h)]
    refine xnone W16 (xuse [Ar W16 ⟨none,0,0⟩ []] (xret ⟨by rw [e],by rw [e]⟩))
  have h0:¬ checkR r≠0:=by simpa using h
  refine xif (fun h1=>?_) (fun h1=>?_)
  · have e:wordsM seq r=([],3):=by unfold wordsM;rw [if_neg h0,if_pos (by simpa using h1)]
    refine xnone W16 (xuse [Ar W16 ⟨none,0,0⟩ []] (xret ⟨by rw [e],by rw [e]⟩))
  have e:wordsM seq r=(rowM seq r,0):=by unfold wordsM;rw [if_neg h0,if_neg (by simpa using h1)]
  iterate 5 (refine xget (h:=?_))
  refine xcall0 (rRow_spec seq r) rdb ?_
  rintro ⟨s,_⟩ _ rfl
  exact app1 (ca1 (xkeep (l:=[_]) (xret ⟨by rw [e],by rw [e]⟩)))
theorem CopyW_spec (s:Sl) (ws:List Int) (hb:ws.length≤1000000):Ct Pr F_kit_CopyWords [s.v] .one [.slice] [] (RAr W16 s ws) (fun t Bs=>Bs=[Ar W16 t.1 ws]):=by
  refine spec1 c_kit_CopyWords fun B hr=>?_
  haveI:Fro B s W16 ws:=⟨hr⟩
  have hn:=hr.1
  unfold kit_CopyWords
  refine xnone W16 ?_
  refine xloop2 (fun n (o:Sl) (i:Int) As'=>∃ k:Nat,i=(k:Int)∧n=ws.length - k∧k≤ws.length∧As'=[Ar W16 o (ws.take k)]) ws.length ⟨0,rfl,rfl,by omega,by simp⟩ ?_
  rintro n o _ _ K ⟨k,rfl,rfl,hk,rfl⟩ hK
  refine xif_dec (fun h=>?_) (fun h=>?_)
  · have hlt:k<ws.length:=by omega
    have hy:=List.getElem?_eq_getElem hlt
    refine xidxn (E:=W16) (xs:=ws) (s:=s) (h1:=hlt) (h:=fun _ _=>?_)
    refine xgetE (E:=W16) (xs:=ws) hy (h:=xnew fun b=>?_)
    refine xapp1 (E:=W16) ws[k] (hb:=by simp;omega) (h:=fun s'=>?_)
    rw [wrap_succ k (by omega)]
    refine hK (ws.length - (k+1)) _ _ _ (by omega) ⟨k+1,rfl,rfl,by omega,?_⟩
    rw [List.take_add_one,hy];rfl
  · rw [List.take_of_length_le (by omega)]
    exact xret rfl
theorem SpoilW_spec (s:Sl) (ws:List Int):Ct Pr F_kit_SpoilWords [s.v] (.tup []) [] [Ar W16 s ws] emp (fun _ Bs=>∃ ws':List Int,ws'.length=ws.length∧Bs=[Ar W16 s ws']):=by
  refine spec0 c_kit_SpoilWords fun B _=>?_
  unfold kit_SpoilWords
  refine xars 0 fun zs hn hc=>?_
  refine xslc0 rfl (by omega) (by omega) ?_
  rw [show ((s.c:Int)).toNat=s.c by omega]
  refine xshift s.c (ws++zs) [] (by simp) (by rw [List.length_append];exact hc) (xar ?_)
  refine xloop1 (fun n (i:Int) As'=>∃ (k:Nat) (us:List Int),i=(k:Int)∧n=s.c - k∧k≤s.c∧us.length=s.c∧As'=[Ar W16 ⟨s.p,s.c,s.c⟩ us]) s.c ⟨0,ws++zs,rfl,rfl,by omega,by rw [List.length_append];exact hc,rfl⟩ ?_
  rintro n _ _ K ⟨k,us,rfl,rfl,hk,hl,rfl⟩ hK
  refine xif_dec (fun h=>?_) (fun h=>?_)
  · have hlt:k<us.length:=by
      have h:(k:Int)<(s.c:Int):=h
      omega
    have hy:=List.getElem?_eq_getElem hlt
    refine xidxn (E:=W16) (xs:=us) (s:=⟨s.p,s.c,s.c⟩) (h1:=hlt) (h:=fun _ _=>?_)
    refine xgetE (E:=W16) (xs:=us) hy (h:=?_)
    refine xidxn (E:=W16) (xs:=us) (s:=⟨s.p,s.c,s.c⟩) (h1:=hlt) (h:=fun _ _=>?_)
    refine xsetE (E:=W16) (xs:=us) (bits .xor .u16 us[k] 23205) hy (hv:=rfl) (h:=?_)
    have hM:s.c≤9223372036854775807→Ent B [Ar W16 ⟨s.p,s.c,s.c⟩ (us.set k (bits .xor .u16 us[k] 23205))] (K (IntKind.i64.wrap ((k:Int)+1))):=fun hM=>by
      rw [wrap_succ k (by omega)]
      exact hK (s.c - (k+1)) _ _ (by omega) ⟨k+1,_,rfl,rfl,by omega,by simpa using hl,rfl⟩
    refine xfact 0 (P1:=Ar W16 ⟨s.p,s.c,s.c⟩ (us.set k (bits .xor .u16 us[k] 23205))) (fun g hg=>?_) hM
    obtain ⟨z,hz⟩:=hg
    exact hz.cap_le
  · refine xars 0 fun zs2 h5 h6=>?_
    refine xshift s.n (us.take s.n) (us.drop s.n++zs2) (by rw [←List.append_assoc,List.take_append_drop]) (by rw [List.length_take];omega) (xar ?_)
    obtain ⟨p,n,c⟩:=s
    exact xret ⟨us.take n,by rw [List.length_take];simp only at hl hn hc;omega,rfl⟩
theorem Apart2_spec (l s0 s1:Sl) (xs ys:List Int) (hx:xs.length≤1000000) (hy:ys.length≤1000000):Ct Pr F_kit_ApartWords [l.v] .one [.bool] [Ar W16 s0 xs,Ar W16 s1 ys] (RAr SL l [s0,s1]) (fun t Bs=>t.1=true):=by
  refine spec1 c_kit_ApartWords fun B hr=>?_
  haveI:Fro B l SL [s0,s1]:=⟨hr⟩
  have hn:(2:Nat)=l.n:=hr.1
  unfold kit_ApartWords
  refine xloop1 (fun n (i:Int) As'=>∃ (k:Nat) (xs' ys':List Int),i=(k:Int)∧n=2 - k∧k≤2∧xs'.length=xs.length∧ys'.length=ys.length∧As'=[Ar W16 s0 xs',Ar W16 s1 ys']) 2 ⟨0,xs,ys,rfl,rfl,by omega,rfl,rfl,rfl⟩ ?_
  rintro n _ _ K ⟨i,xs1,ys1,rfl,rfl,hi,e1,e2,rfl⟩ hK
  refine xif_dec (fun h=>?_) (fun h=>xkeep (l:=[]) (xret rfl))
  refine xloop1 (fun n (k:Int) As'=>∃ (k':Nat) (xs' ys':List Int),k=(k':Int)∧n=2 - k'∧k'≤2∧xs'.length=xs.length∧ys'.length=ys.length∧As'=[Ar W16 s0 xs',Ar W16 s1 ys']) 2 ⟨0,xs1,ys1,rfl,rfl,by omega,e1,e2,rfl⟩ ?_
  rintro n _ _ K2 ⟨k,xs2,ys2,rfl,rfl,hk,e3,e4,rfl⟩ hK2
  refine xif_dec (fun h2=>?_) (fun h2=>?_)
  rotate_left
  · rw [wrap_succ i (by omega)]
    exact hK (2 - (i+1)) _ _ (by omega) ⟨i+1,xs2,ys2,rfl,rfl,by omega,e3,e4,rfl⟩
  have hi2:i<2:=by omega
  have hk2:k<2:=by omega
  refine xjoin0 (fun As'=>∃ (xs' ys':List Int),xs'.length=xs.length∧ys'.length=ys.length∧As'=[Ar W16 s0 xs',Ar W16 s1 ys']) (fun K3 hK3=>?_) ?_
  · refine xif (fun h3=>hK3 _ ⟨xs2,ys2,e3,e4,rfl⟩) (fun h3=>?_)
    have hik:i≠k:=fun e=>by subst e;simp at h3
    have two:(i=0∧k=1)∨(i=1∧k=0):=by omega
    rcases two with ⟨rfl,rfl⟩ | ⟨rfl,rfl⟩
    · refine xidxn (E:=SL) (xs:=[s0,s1]) (s:=l) (k:=1) (h1:=by simp) (h:=fun _ _=>?_)
      refine xgetE (E:=SL) (xs:=[s0,s1]) (x:=s1) rfl (h:=?_)
      refine xcl (pre:=[]) (CopyW_spec s1 ys2 (by omega)) rdb ?_
      rintro ⟨c,_⟩ _ rfl
      refine app1 (ca1 ?_)
      refine xidxn (E:=SL) (xs:=[s0,s1]) (s:=l) (k:=0) (h1:=by simp) (h:=fun _ _=>?_)
      refine xgetE (E:=SL) (xs:=[s0,s1]) (x:=s0) rfl (h:=?_)
      refine xcl (SpoilW_spec s0 xs2) rdb ?_
      rintro _ _ ⟨xs3,e5,rfl⟩
      refine app1 (ca0 ?_)
      refine xidxn (E:=SL) (xs:=[s0,s1]) (s:=l) (k:=1) (h1:=by simp) (h:=fun _ _=>?_)
      refine xgetE (E:=SL) (xs:=[s0,s1]) (x:=s1) rfl (h:=?_)
      refine xcl (pre:=[]) (SameWords_spec c s1 ys2 ys2 (by omega)) (rds_and rdb rdb) ?_
      rintro ⟨x,_⟩ _ ⟨hx,rfl⟩
      obtain rfl:x=true:=by rw [show x=_ from hx];simp
      refine app0 (ca1 (xiff rfl ?_))
      exact xuse' (hK3 _ ⟨xs3,ys2,by omega,e4,rfl⟩)
    · refine xidxn (E:=SL) (xs:=[s0,s1]) (s:=l) (k:=0) (h1:=by simp) (h:=fun _ _=>?_)
      refine xgetE (E:=SL) (xs:=[s0,s1]) (x:=s0) rfl (h:=?_)
      refine xcl (pre:=[]) (CopyW_spec s0 xs2 (by omega)) rdb ?_
      rintro ⟨c,_⟩ _ rfl
      refine app1 (ca1 ?_)
      refine xidxn (E:=SL) (xs:=[s0,s1]) (s:=l) (k:=1) (h1:=by simp) (h:=fun _ _=>?_)
      refine xgetE (E:=SL) (xs:=[s0,s1]) (x:=s1) rfl (h:=?_)
      refine xcl (SpoilW_spec s1 ys2) rdb ?_
      rintro _ _ ⟨ys3,e5,rfl⟩
      refine app1 (ca0 ?_)
      refine xidxn (E:=SL) (xs:=[s0,s1]) (s:=l) (k:=0) (h1:=by simp) (h:=fun _ _=>?_)
      refine xgetE (E:=SL) (xs:=[s0,s1]) (x:=s0) rfl (h:=?_)
      refine xcl (pre:=[]) (SameWords_spec c s0 xs2 xs2 (by omega)) (rds_and rdb rdb) ?_
      rintro ⟨x,_⟩ _ ⟨hx,rfl⟩
      obtain rfl:x=true:=by rw [show x=_ from hx];simp
      refine app0 (ca1 (xiff rfl ?_))
      exact xuse' (hK3 _ ⟨xs2,ys3,e3,by omega,rfl⟩)
  · rintro _ ⟨xs3,ys3,e5,e6,rfl⟩
    rw [wrap_succ k (by omega)]
    exact hK2 (2 - (k+1)) _ _ (by omega) ⟨k+1,xs3,ys3,rfl,rfl,by omega,e5,e6,rfl⟩
theorem hwords_law (seq:Int) (r:RE):Ct Pr F_law26_HistoryWords [.int .i64 seq,r.v] .one [.bool] [] GTab (fun t Bs=>t.1=true∧Bs=[]):=by
  refine spec1 c_law26_HistoryWords fun B hr=>?_
  haveI:FroP B GTab:=⟨hr,fun _ _ h s=>GTab.mono _ _ h s⟩
  have fin:∀ {As:List HP},Ent B As (Ret B (ss:=[.bool]) (fun t Bs=>t.1=true∧Bs=[]) (true,())):=xkeep (l:=[]) (xret ⟨rfl,rfl⟩)
  have works:∀ {As:List HP}{K:Bool→WP},Ent B As (K true)→Ent B As (XCall Pr F_law26_works [] .one [.bool] K):=by
    intro As K hK
    refine xcall0 works26_spec rdb ?_
    rintro ⟨c,_⟩ _ ⟨hc,rfl⟩
    simp only at hc;subst hc
    exact app0 (ca1 hK)
  unfold law26_HistoryWords
  refine xnew fun b=>xget (h:=xif_dec (fun h=>works fin) (fun h=>?_))
  iterate 5 (refine xget (h:=?_))
  refine xcall0 (hWords_spec seq r) rdb ?_
  rintro ⟨s,e,_⟩ _ ⟨he,rfl⟩
  simp only at he;subst he
  refine app1 (ca2 ?_)
  iterate 5 (refine xget (h:=?_))
  refine xcall0 (hWords_spec seq r) rdb ?_
  rintro ⟨s1,e,_⟩ _ ⟨he,rfl⟩
  simp only at he;subst he
  refine app1 (ca2 ?_)
  iterate 5 (refine xget (h:=?_))
  refine xcall0 (rWords_spec seq r) rdb ?_
  rintro ⟨s2,e,_⟩ _ ⟨he,rfl⟩
  simp only at he;subst he
  refine app1 (ca2 ?_)
  simp only
  have hl:=wordsM_len seq r
  generalize hws:(wordsM seq r).1=ws at *
  refine xjoin (xift (by simp) ?_)
  refine xcl (pre:=[]) (SameWords_spec s s2 ws ws (by omega)) (rds_and rdb rdb) ?_
  rintro ⟨x,_⟩ _ ⟨hx,rfl⟩
  obtain rfl:x=true:=by rw [show x=_ from hx];simp
  refine app0 (ca1 (xjoin (xift rfl ?_)))
  refine xcl (pre:=[]) (SameWords_spec s1 s2 ws ws (by omega)) (rds_and rdb rdb) ?_
  rintro ⟨x,_⟩ _ ⟨hx,rfl⟩
  obtain rfl:x=true:=by rw [show x=_ from hx];simp
  refine app0 (ca1 (xjoin (xift rfl (xnew fun b1=>?_))))
  refine xfold1 0 (Q:=Ar SL ⟨some ⟨b1,0,none⟩,2,2⟩ [s,s1]) (fun g hg=>⟨[],blk_ar [s,s1] 2 rfl rfl hg⟩) ?_
  refine xcl (pre:=[Ar W16 s ws,Ar W16 s1 ws]) (Apart2_spec ⟨some ⟨b1,0,none⟩,2,2⟩ s s1 ws ws (by omega) (by omega)) rdb ?_
  rintro ⟨x,_⟩ Bs hx
  obtain rfl:x=true:=hx
  exact ca1 (xjoin (xift rfl (works fin)))
end Go.Cx
