/-
  Records as words.
  A row of words told again.
  Files of records; a store that is laid.
  A store that is laid; what each statement of the history asks.
  A store that is laid; what each statement of the history asks.
  What each statement of the history asks; a row is told as it was.
  The law HistoryBack.
  The document's rows of words.
-/
import Derived.Test.YtlcnhajfgilipaaGreatDoorR1
import Derived.Test.YtlcnhajfgilipaaGreatDoorA4
import Derived.Test.YtlcnhajfgilipaaGreatDoorA3
namespace Go.Cx
open Go Go.Cf
set_option linter.unusedVariables false
set_option maxRecDepth 100000
variable {B:Base}{As F:List HP}
theorem packPut_spec (b:Sl) (xs:List UInt8) (v:Nat) (hv:v<18446744073709551616) (hm:xs.length≤1048576):Ct Pr F_pack_Put [b.v,.int .u64 (v:Int),.int .i64 8] (.tup [none,none]) [.slice,.int .i64] [] (RAr U8 b xs)
    (fun t Bs=>t.2.1=0∧Bs=[Ar U8 t.1 (xs++be8 v)]):=by
  refine spec2 c_pack_Put fun B hr=>?_
  have fb:Fro B b U8 xs:=⟨hr⟩
  have hb:=hr.1
  unfold pack_Put
  refine xjoin (xiff rfl (xjoin (xiff rfl (xiff rfl ?_))))
  rw [show IntKind.i64.wrap ((b.n:Int)+8)=((xs.length+8:Nat):Int) by rw [wrap_id _ (by omega) (by omega)];omega]
  refine xmake2 U8 (xs.length+8) (xs.length+8) (by omega) (by omega) (h:=fun b1=>?_)
  rw [Nat.sub_self]
  refine xcopyW (s:=⟨some ⟨b1,0,none⟩,xs.length+8,xs.length+8⟩) (y:=b) (ys:=xs) (fun w hw=>?_) (hl:=by simp) (hn:=by simp) (hc:=Nat.le_refl _) (h:=fun n=>?_)
  · exact RdA.rd w hw
  refine xar ?_
  refine xloop1 (fun n i As=>∃ (k:Nat) (ys:List UInt8),i=(k:Int)∧n=8 - k∧k≤8∧ys.length=xs.length+8∧(∀ j,j<xs.length→ys[j]? = xs[j]?)∧(∀ j,j<k→ys[xs.length+7 - j]? = some (UInt8.ofNat (v / 256 ^ j)))∧As=[Ar U8 ⟨some ⟨b1,0,none⟩,xs.length+8,xs.length+8⟩ ys]) 8 ⟨0,_,rfl,rfl,by omega,by simp,fun j hj=>by rw [List.getElem?_append_left hj],fun j hj=>by omega,rfl⟩ ?_
  rintro n _ _ K ⟨k,ys,rfl,rfl,hk,hl,h1,h2,rfl⟩ hK
  refine xif_dec (fun h=>?_) (fun h=>?_)
  · have hk8:k<8:=by omega
    obtain ⟨e1,e2⟩:=shift_le k hk8
    refine xasrt e2 ?_
    rw [e1,shr_eq v _ (256 ^ k) rfl,byte_of]
    have ei:IntKind.i64.wrap (IntKind.i64.wrap (((xs.length+8:Nat):Int) - 1) - (k:Int))=((xs.length+7 - k:Nat):Int):=by
      rw [wrap_id (((xs.length+8:Nat):Int) - 1) (by omega) (by omega),wrap_id _ (by omega) (by omega)];omega
    rw [ei]
    have hy:=List.getElem?_eq_getElem (l:=ys) (i:=xs.length+7 - k) (by omega)
    refine xidxn (h1:=by omega) (h:=fun _ _=>?_)
    refine xsetE (UInt8.ofNat (v / 256 ^ k)) hy (hv:=rfl) (h:=?_)
    rw [wrap_succ k (by omega)]
    refine hK (8 - (k+1)) _ _ (by omega) ⟨k+1,_,rfl,rfl,by omega,by simpa using hl,fun j hj=>?_,fun j hj=>?_,rfl⟩
    · rw [List.getElem?_set_ne (by omega)];exact h1 j hj
    · rcases Nat.lt_or_ge j k with h3 | h3
      · rw [List.getElem?_set_ne (by omega)];exact h2 j h3
      · obtain rfl:j=k:=by omega
        rw [List.getElem?_set_self (by omega)]
  · have hk8:k=8:=by omega
    subst hk8
    have:ys=xs++be8 v:=by
      refine eq_upto (by rw [List.length_append,be8_len,hl]) (fun j hj=>?_)
      rcases Nat.lt_or_ge j xs.length with h3 | h3
      · rw [h1 j h3,List.getElem?_append_left h3]
      · have h4:j<xs.length+8:=by rw [List.length_append,be8_len] at hj;exact hj
        have:=h2 (xs.length+7 - j) (by omega)
        rw [show xs.length+7 - (xs.length+7 - j)=j by omega] at this
        rw [this,List.getElem?_append_right h3,be8_get v (by omega),show 7 - (j - xs.length)=xs.length+7 - j by omega]
    rw [this]
    exact xret ⟨rfl,rfl⟩
theorem Ars.dropc {α:Type}{E:Enc α}{s:Sl}{xs zs:List α}{h:Frag}(ha:Ars E s xs zs h) (l:Nat) (hl:l≤xs.length):Ars E (s.cut l s.n s.c E.sz) (xs.drop l) zs h:=by
  obtain ⟨p,n,c⟩:=s
  obtain ⟨h1,h2,h3⟩:=ha
  simp only at h1 h2 h3
  refine ⟨by simp [Sl.cut];omega,by simp [Sl.cut];omega,?_⟩
  rcases h3 with ⟨h4,h5⟩ | ⟨b,o,pre,post,e,fr,hp,hb,ho,hfr,hM⟩
  · subst h4 h5
    refine .inl ⟨?_,by simp [Sl.cut]⟩
    simp only [Sl.cut];split<;>rfl
  · have e0:pre++flat E (xs++zs)++post=(pre++flat E (xs.take l))++flat E (xs.drop l++zs)++post:=by
      have e1:flat E (xs++zs)=flat E (xs.take l)++flat E (xs.drop l++zs):=by rw [←flat_append,←List.append_assoc,List.take_append_drop]
      rw [e1];simp only [List.append_assoc]
    have hpl:(pre++flat E (xs.take l)).length=o+l*E.sz:=by rw [List.length_append,flat_length,ho,List.length_take,Nat.min_eq_left hl]
    by_cases hc:c=l
    · refine .inr ⟨b,o,pre,flat E xs++post,e,fr,?_,?_,ho,?_,by simp only [Sl.cut];omega⟩
      · simp only [Sl.cut];rw [if_pos hc,hp]
      · have ez:zs=[]:=List.eq_nil_of_length_eq_zero (by omega)
        have ed:xs.drop l=[]:=List.eq_nil_of_length_eq_zero (by simp;omega)
        rw [ed,ez,hb,ez];simp [flat]
      · intro i hi
        refine hfr i ?_
        have ez:zs=[]:=List.eq_nil_of_length_eq_zero (by omega)
        have ed:xs.drop l=[]:=List.eq_nil_of_length_eq_zero (by simp;omega)
        rw [ed,ez] at hi
        rw [ez]
        simpa [flat] using hi
    · refine .inr ⟨b,o+l*E.sz,pre++flat E (xs.take l),post,e,fr,?_,by rw [←e0];exact hb,hpl,by rw [←e0];exact hfr,by simp only [Sl.cut];omega⟩
      simp only [Sl.cut]
      rw [if_neg hc,hp]
      simp [add_none]
def u64N (v:Int):Nat:=(IntKind.u64.wrap v).toNat
theorem u64N_lt (v:Int):u64N v<18446744073709551616∧IntKind.u64.wrap v=(u64N v:Int):=by
  have e1:(2 ^ IntKind.u64.bits:Int)=18446744073709551616:=by decide
  have e3:IntKind.u64.signed=false:=rfl
  have h:0≤IntKind.u64.wrap v∧IntKind.u64.wrap v<18446744073709551616:=by
    simp only [IntKind.wrap,e1,e3,Bool.false_and]
    simp
    omega
  unfold u64N
  omega
end Go.Cx
namespace Go.Cx
open Go Go.Cf
set_option linter.unusedVariables false
set_option maxRecDepth 100000
variable {B:Base}{As F:List HP}
end Go.Cx
namespace Go.Cx
open Go Go.Cf
set_option linter.unusedVariables false
set_option maxRecDepth 100000
variable {B:Base}{As F:List HP}
end Go.Cx
namespace Go.Cx
open Go Go.Cf
set_option linter.unusedVariables false
set_option maxRecDepth 100000
variable {B:Base}{As F:List HP}
theorem tw_step {α:Type}{P:α→Bool}:∀ {L:List α}{k:Nat}{y:α},k≤(L.takeWhile P).length→L[k]? = some y→P y=true→k+1≤(L.takeWhile P).length
  | [],k,y,_,h,_=>by simp at h
  | x::L,k,y,hk,hy,hp=>by
    cases hx:P x with
    | false=>
      rw [List.takeWhile_cons_of_neg (by rw [hx];simp)] at hk
      obtain rfl:k=0:=by simpa using hk
      obtain rfl:x=y:=by simpa using hy
      rw [hx] at hp;cases hp
    | true=>
      rw [List.takeWhile_cons_of_pos hx] at hk ⊢
      cases k with
      | zero=>simp
      | succ k=>
        simp only [List.length_cons] at hk ⊢
        have:=tw_step (L:=L) (k:=k) (by omega) (by simpa using hy) hp
        omega
theorem tw_stop {α:Type}{P:α→Bool}:∀ {L:List α}{k:Nat},k≤(L.takeWhile P).length→(∀ y,L[k]? = some y→P y=false)→(L.takeWhile P).length=k
  | [],k,hk,_=>by simp at hk ⊢;omega
  | x::L,k,hk,hn=>by
    cases hx:P x with
    | false=>
      rw [List.takeWhile_cons_of_neg (by rw [hx];simp)] at hk ⊢
      simp at hk ⊢;omega
    | true=>
      rw [List.takeWhile_cons_of_pos hx] at hk ⊢
      cases k with
      | zero=>have:=hn x rfl;rw [hx] at this;cases this
      | succ k=>
        simp only [List.length_cons] at hk ⊢
        have:=tw_stop (L:=L) (k:=k) (by omega) (fun y hy=>hn y (by simpa using hy))
        omega
def addX (X:XM) (k:KY):XM:=if k.1<0∨k.1>1099511627776∨k.2<0∨k.2>1099511627776 then X else if k.2≤X.last then X else putX X k.1 k.2
end Go.Cx
namespace Go.Cx
open Go Go.Cf
set_option linter.unusedVariables false
set_option maxRecDepth 100000
variable {B:Base}{As F:List HP}
abbrev aB:ByteArray:=⟨#[97]⟩
abbrev smp (t:Int):RE:=⟨1,t,aB,1,0⟩
end Go.Cx
namespace Go.Cx
open Go Go.Cf
set_option linter.unusedVariables false
set_option maxRecDepth 100000
variable {B:Base}{As F:List HP}
end Go.Cx
namespace Go.Cx
open Go Go.Cf
set_option linter.unusedVariables false
set_option maxRecDepth 100000
variable {B:Base}{As F:List HP}
end Go.Cx
namespace Go.Cx
open Go Go.Cf
set_option linter.unusedVariables false
set_option maxRecDepth 100000
variable {B:Base}{As F:List HP}
theorem letter_spec (b:UInt8):Ct Pr F_ref09_letter [.int .u8 b.toNat] .one [.bool] [] emp (fun r Bs=>r.1=letterB b∧Bs=[]):=by
  refine spec1 c_ref09_letter fun B _=>?_
  unfold ref09_letter
  refine xjoin (xif (fun h=>xret ⟨?_,rfl⟩) (fun h=>xret ⟨?_,rfl⟩))
  · symm;simp [letterB] at *;omega
  · rw [Bool.eq_iff_iff];simp [letterB] at *;omega
theorem NameRef_spec (s:ByteArray):Ct Pr F_ref09_Name [.string s] .one [.bool] [] emp (fun r Bs=>r.1=nameOk s∧Bs=[]):=by
  refine spec1 c_ref09_Name fun B _=>?_
  have fin:∀ {x:Bool}{As:List HP},x=nameOk s→Ent B As (Ret B (ss:=[.bool]) (fun r Bs=>r.1=nameOk s∧Bs=[]) (x,())):=fun h=>xkeep (l:=[]) (xret ⟨h,rfl⟩)
  unfold ref09_Name
  refine xjoin (xif (fun h0=>xift rfl (fin ?_)) (fun h0=>?_))
  · symm;unfold nameOk;simp at *;omega
  have hs:1≤s.size∧s.size≤16:=by simp at h0;omega
  obtain ⟨b,hb⟩:=byte_at (k:=0) (show 0<s.size by omega)
  refine xbyte (k:=0) rfl hb ?_
  refine xcall0 (letter_spec b) rdb ?_
  rintro ⟨x,_⟩ _ ⟨hx,rfl⟩
  simp only at hx;subst hx
  refine app0 (ca1 (xif (fun h1=>fin ?_) (fun h1=>?_)))
  · symm;refine nameOk_false (k:=0) (by omega) ?_
    simp only [okAt,hb];simpa using h1
  have h1:letterB b=true:=by simpa using h1
  refine xloop1 (fun n (x:Int) As'=>∃ k:Nat,x=(k:Int)∧n=s.size - k∧k≤s.size∧As'=[]∧∀ i,i<k→okAt s i=true) s.size ⟨0,rfl,by omega,by omega,rfl,fun i hi=>by omega⟩ ?_
  rintro n x As' K ⟨k,rfl,rfl,hk,rfl,hall⟩ hK
  refine xif_dec (fun hp=>?_) (fun hp=>fin ?_)
  · have hp:k<s.size:=by omega
    obtain ⟨c,hc⟩:=byte_at hp
    have next:okAt s k=true→Ent B [] (K (IntKind.i64.wrap ((k:Int)+1))):=fun h=>by
      rw [wrap_succ k (by omega)]
      exact hK (s.size - (k+1)) _ _ (by omega) ⟨k+1,rfl,rfl,by omega,rfl,fun i hi=>by
        by_cases e:i=k
        · subst e;exact h
        · exact hall i (by omega)⟩
    have hok:okAt s k=(letterB c||(decide (0<k)&&moreB c)):=by simp only [okAt,hc]
    refine xbyte (k:=k) rfl hc ?_
    refine xcall0 (letter_spec c) rdb ?_
    rintro ⟨x,_⟩ _ ⟨hx,rfl⟩
    simp only at hx;subst hx
    have h0k:letterB c=false→0<k:=fun e=>by
      rcases Nat.eq_zero_or_pos k with e0 | e0
      · subst e0;rw [hb] at hc;cases hc;rw [h1] at e;cases e
      · exact e0
    refine app0 (ca1 (xjoin (xif (fun h2=>xif (fun h3=>fin ?_) (fun h3=>next ?_)) (fun h2=>xiff rfl (next ?_)))))
    · have h2:letterB c=false:=by simpa using h2
      symm;refine nameOk_false hp ?_
      rw [hok,h2];simp [moreB] at *;omega
    · have h2:letterB c=false:=by simpa using h2
      have:=h0k h2
      rw [hok,h2];simp [moreB] at *;omega
    · rw [hok];have h2:letterB c=true:=by simpa using h2
      rw [h2];rfl
  · rw [nameOk_all (fun i hi=>hall i (by omega))];simp;omega
def loK (k:Int):Int:=if k=1 then -1099511627776 else if k=6 then 0 else 1
def hiK (k:Int):Int:=if k=2 then 4 else if k=6 then 255 else 1099511627776
theorem kindR_in {k:Int}(h1:1≤k) (h2:k≤6):kindR k=some ((k == 1||k == 2),(k != 5),(k == 5||k == 6),loK k,hiK k):=by
  have:k=1∨k=2∨k=3∨k=4∨k=5∨k=6:=by omega
  rcases this with rfl | rfl | rfl | rfl | rfl | rfl<;>decide
theorem kindR_out {k:Int}(h:k<1∨k>6):kindR k=none:=by
  unfold kindR
  rw [if_neg (by omega),if_neg (by omega),if_neg (by omega),if_neg (by omega),if_neg (by omega)]
theorem empty_size (s:ByteArray):(!(s.toList == ByteArray.empty.toList))=decide ((s.size:Int)>0):=by
  rw [ByteArray.toList_eq,empty_list]
  have:s.data.toList.length=s.size:=by simp
  cases h:s.data.toList with
  | nil=>rw [h] at this;rw [←this];rfl
  | cons x l=>rw [h] at this;rw [←this];symm;simp
theorem valueIn (k v:Int) (h1:1≤k) (h2:k≤6):(if k=1 then (decide (v≥(-1099511627776))&&decide (v≤1099511627776)) else if k=2 then (decide (v≥1)&&decide (v≤4)) else if k=6 then (decide (v≥0)&&decide (v≤255)) else (decide (v≥1)&&decide (v≤1099511627776)))=withinB v (loK k) (hiK k):=by
  have:k=1∨k=2∨k=3∨k=4∨k=5∨k=6:=by omega
  rcases this with rfl | rfl | rfl | rfl | rfl | rfl<;>rfl
theorem tagged_spec (k:Int):Ct Pr F_ref11_tagged [.int .i64 k] .one [.bool] [] emp (fun t Bs=>t.1=(k == 1||k == 2)∧Bs=[]):=by
  refine spec1 c_ref11_tagged fun B _=>?_
  unfold ref11_tagged
  exact xret ⟨rfl,rfl⟩
theorem valued_spec (k:Int):Ct Pr F_ref11_valued [.int .i64 k] .one [.bool] [] emp (fun t Bs=>t.1=(k != 5)∧Bs=[]):=by
  refine spec1 c_ref11_valued fun B _=>?_
  unfold ref11_valued
  exact xret ⟨rfl,rfl⟩
theorem named_spec11 (k:Int):Ct Pr F_ref11_named [.int .i64 k] .one [.bool] [] emp (fun t Bs=>t.1=(k == 5||k == 6)∧Bs=[]):=by
  refine spec1 c_ref11_named fun B _=>?_
  unfold ref11_named
  exact xret ⟨rfl,rfl⟩
theorem value_spec (k v:Int) (h1:1≤k) (h2:k≤6):Ct Pr F_ref11_value [.int .i64 k,.int .i64 v] .one [.bool] [] emp (fun t Bs=>t.1=withinB v (loK k) (hiK k)∧Bs=[]):=by
  refine spec1 c_ref11_value fun B _=>?_
  rw [←valueIn k v h1 h2]
  unfold ref11_value
  refine xif (fun h=>xret ⟨?_,rfl⟩) (fun h=>xif (fun h3=>xret ⟨?_,rfl⟩) (fun h3=>xif (fun h4=>xret ⟨?_,rfl⟩) (fun h4=>xret ⟨?_,rfl⟩)))
  · rw [if_pos (eq_of_beq h)]
  · rw [if_neg (by simpa using h),if_pos (eq_of_beq h3)]
  · rw [if_neg (by simpa using h),if_neg (by simpa using h3),if_pos (eq_of_beq h4)]
  · rw [if_neg (by simpa using h),if_neg (by simpa using h3),if_neg (by simpa using h4)]
theorem rCheck_spec (r:RE):Ct Pr F_ref11_Check [r.v] .one [.int .i64] [] emp (fun t Bs=>t.1=checkR r∧Bs=[]):=by
  refine spec1 c_ref11_Check fun B _=>?_
  have fin:∀ {x:Int}{As:List HP},x=checkR r→Ent B As (Ret B (ss:=[.int .i64]) (fun t Bs=>t.1=checkR r∧Bs=[]) (x,())):=fun h=>xkeep (l:=[]) (xret ⟨h,rfl⟩)
  unfold ref11_Check
  refine xnew fun b=>xget (h:=?_)
  refine xjoin1 (fun(x:Bool) As'=>x=decide (r.kind<1∨r.kind>6)∧As'=[Blk b r.cells]) (fun K hK=>xif_dec (fun h=>hK _ _ ⟨?_,rfl⟩) (fun h=>xget (h:=hK _ _ ⟨?_,rfl⟩))) ?_
  · symm;rw [decide_eq_true_eq];exact .inl h
  · have:decide (r.kind>6)=decide (r.kind<1∨r.kind>6):=by congr 1;apply propext;constructor<;>intro h2<;>omega
    exact this
  rintro _ _ ⟨rfl,rfl⟩
  refine xif_dec (fun h=>fin ?_) (fun h=>?_)
  · unfold checkR;rw [kindR_out h]
  have k1:1≤r.kind:=by omega
  have k2:r.kind≤6:=by omega
  have hc:checkR r=if ((!(r.kind == 1||r.kind == 2) && !(r.tag.toList == ByteArray.empty.toList))||((!(r.kind != 5)&&r.val != 0)||(!(r.kind == 5||r.kind == 6)&&r.id != 0)))=true then 23
    else if (!withinB r.time 0 1099511627776)=true then 3
    else if ((r.kind == 1||r.kind == 2) && !nameOk r.tag)=true then 8
    else if (((r.kind != 5) && !withinB r.val (loK r.kind) (hiK r.kind))||((r.kind == 5||r.kind == 6) && !withinB r.id 1 1099511627776))=true then 3
    else 0:=by unfold checkR;rw [kindR_in k1 k2]
  rw [empty_size] at hc
  have tg:∀ {As:List HP}{K:Bool→WP},Ent B As (K (r.kind == 1||r.kind == 2))→Ent B As (XCall Pr F_ref11_tagged [.int .i64 r.kind] .one [.bool] K):=by
    intro As K hK
    refine xcall0 (tagged_spec _) rdb ?_
    rintro ⟨x,_⟩ _ ⟨hx,rfl⟩
    simp only at hx;subst hx
    exact app0 (ca1 hK)
  have vl:∀ {As:List HP}{K:Bool→WP},Ent B As (K (r.kind != 5))→Ent B As (XCall Pr F_ref11_valued [.int .i64 r.kind] .one [.bool] K):=by
    intro As K hK
    refine xcall0 (valued_spec _) rdb ?_
    rintro ⟨x,_⟩ _ ⟨hx,rfl⟩
    simp only at hx;subst hx
    exact app0 (ca1 hK)
  have nm:∀ {As:List HP}{K:Bool→WP},Ent B As (K (r.kind == 5||r.kind == 6))→Ent B As (XCall Pr F_ref11_named [.int .i64 r.kind] .one [.bool] K):=by
    intro As K hK
    refine xcall0 (named_spec11 _) rdb ?_
    rintro ⟨x,_⟩ _ ⟨hx,rfl⟩
    simp only at hx;subst hx
    exact app0 (ca1 hK)
  generalize hT:(r.kind == 1||r.kind == 2)=T at *
  generalize hV:(r.kind != 5)=V at *
  generalize hN:(r.kind == 5||r.kind == 6)=N at *
  refine xget (h:=tg ?_)
  refine xjoin1 (fun(x:Bool) As'=>x=(!T&&decide ((r.tag.size:Int)>0))∧As'=[Blk b r.cells]) (fun K hK=>xif (fun h=>xget (h:=hK _ _ ⟨by rw [h];rfl,rfl⟩)) (fun h=>hK _ _ ⟨by rw [h];rfl,rfl⟩)) ?_
  rintro _ _ ⟨rfl,rfl⟩
  refine xjoin1 (fun(x:Bool) As'=>x=((!T&&decide ((r.tag.size:Int)>0))||(!V&&r.val != 0))∧As'=[Blk b r.cells]) (fun K hK=>xif (fun h=>hK _ _ ⟨by rw [h];rfl,rfl⟩) (fun h=>xget (h:=vl (xjoin (xif (fun h2=>xget (h:=hK _ _ ⟨by rw [h,h2];rfl,rfl⟩)) (fun h2=>hK _ _ ⟨by rw [h,h2];rfl,rfl⟩)))))) ?_
  rintro _ _ ⟨rfl,rfl⟩
  refine xjoin1 (fun(x:Bool) As'=>x=(((!T&&decide ((r.tag.size:Int)>0))||(!V&&r.val != 0))||(!N&&r.id != 0))∧As'=[Blk b r.cells]) (fun K hK=>xif (fun h=>hK _ _ ⟨by rw [h];rfl,rfl⟩) (fun h=>xget (h:=nm (xjoin (xif (fun h2=>xget (h:=hK _ _ ⟨by rw [h,h2];rfl,rfl⟩)) (fun h2=>hK _ _ ⟨by rw [h,h2];rfl,rfl⟩)))))) ?_
  rintro _ _ ⟨rfl,rfl⟩
  rw [←Bool.or_assoc] at hc
  refine xif (fun h=>fin (by rw [hc,if_pos h])) (fun h1=>xget (h:=?_))
  rw [if_neg (by rw [h1];simp)] at hc
  refine xjoin1 (fun(x:Bool) As'=>x=(!withinB r.time 0 1099511627776)∧As'=[Blk b r.cells]) (fun K hK=>xif_dec (fun h=>hK _ _ ⟨?_,rfl⟩) (fun h=>xget (h:=hK _ _ ⟨?_,rfl⟩))) ?_
  · symm;simp only [withinB,Bool.not_eq_true',Bool.and_eq_false_imp,decide_eq_true_eq,decide_eq_false_iff_not];omega
  · rw [Bool.eq_iff_iff];simp only [withinB,Bool.not_eq_true',Bool.and_eq_false_imp,decide_eq_true_eq,decide_eq_false_iff_not];omega
  rintro _ _ ⟨rfl,rfl⟩
  refine xif (fun h=>fin (by rw [hc,if_pos h])) (fun h2=>xget (h:=tg ?_))
  rw [if_neg (by rw [h2];simp)] at hc
  refine xjoin1 (fun(x:Bool) As'=>x=(T && !nameOk r.tag)∧As'=[Blk b r.cells]) (fun K hK=>xif (fun h=>xget (h:=?_)) (fun h=>hK _ _ ⟨by rw [h];rfl,rfl⟩)) ?_
  · refine xcall0 (NameRef_spec _) rdb ?_
    rintro ⟨x,_⟩ _ ⟨hx,rfl⟩
    simp only at hx;subst hx
    exact app0 (ca1 (hK _ _ ⟨by rw [h];rfl,rfl⟩))
  rintro _ _ ⟨rfl,rfl⟩
  refine xif (fun h=>fin (by rw [hc,if_pos h])) (fun h3=>xget (h:=vl ?_))
  rw [if_neg (by rw [h3];simp)] at hc
  refine xjoin1 (fun(x:Bool) As'=>x=(V && !withinB r.val (loK r.kind) (hiK r.kind))∧As'=[Blk b r.cells]) (fun K hK=>xif (fun h=>xget (h:=xget (h:=?_))) (fun h=>hK _ _ ⟨by rw [h];rfl,rfl⟩)) ?_
  · refine xcall0 (value_spec _ _ k1 k2) rdb ?_
    rintro ⟨x,_⟩ _ ⟨hx,rfl⟩
    simp only at hx;subst hx
    exact app0 (ca1 (hK _ _ ⟨by rw [h];rfl,rfl⟩))
  rintro _ _ ⟨rfl,rfl⟩
  refine xjoin1 (fun(x:Bool) As'=>x=((V && !withinB r.val (loK r.kind) (hiK r.kind))||(N && !withinB r.id 1 1099511627776))∧As'=[Blk b r.cells]) (fun K hK=>xif (fun h=>hK _ _ ⟨by rw [h];rfl,rfl⟩) (fun h=>xget (h:=nm (xjoin (xif (fun h4=>xget (h:=xjoin (xif_dec (fun h5=>hK _ _ ⟨?_,rfl⟩) (fun h5=>xget (h:=hK _ _ ⟨?_,rfl⟩))))) (fun h4=>hK _ _ ⟨by rw [h,h4];rfl,rfl⟩)))))) ?_
  · rw [h,h4];symm
    simp only [withinB,Bool.false_or,Bool.true_and,Bool.not_eq_true',Bool.and_eq_false_imp,decide_eq_true_eq,decide_eq_false_iff_not];omega
  · rw [h,h4,Bool.eq_iff_iff]
    simp only [withinB,Bool.false_or,Bool.true_and,Bool.not_eq_true',Bool.and_eq_false_imp,decide_eq_true_eq,decide_eq_false_iff_not];omega
  rintro _ _ ⟨rfl,rfl⟩
  exact xif (fun h=>fin (by rw [hc,if_pos h])) (fun h=>fin (by rw [hc,if_neg (by rw [h];simp)]))
end Go.Cx
