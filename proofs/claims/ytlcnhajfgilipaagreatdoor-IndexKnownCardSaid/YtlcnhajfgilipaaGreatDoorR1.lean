/-
  A name, as the tags have it.
  Records: what is right of one, and the record that bytes are.
  Records: the record that bytes are.
  Records: a record as bytes.
  The index: its calls.
  What an index holds that was opened over a log.
  A log that is filled.
-/
import Derived.Test.YtlcnhajfgilipaaGreatDoorDK
import Derived.Test.YtlcnhajfgilipaaGreatDoorA3
import Derived.Test.YtlcnhajfgilipaaGreatDoorA4
import Derived.Test.YtlcnhajfgilipaaGreatDoorT1
import Derived.Test.YtlcnhajfgilipaaGreatDoorS1
namespace Go.Cx
open Go Go.Cf
set_option linter.unusedVariables false
variable {B:Base}{As:List HP}
def letterB (b:UInt8):Bool:=(decide (97≤b.toNat)&&decide (b.toNat≤122))||(decide (65≤b.toNat)&&decide (b.toNat≤90))
def moreB (b:UInt8):Bool:=(decide (48≤b.toNat)&&decide (b.toNat≤57))||b.toNat == 95||b.toNat == 46||b.toNat == 45
def okAt (s:ByteArray) (i:Nat):Bool:=match s.data.toList[i]? with
  | none=>true
  | some b=>letterB b||(decide (0<i)&&moreB b)
def nameOk (s:ByteArray):Bool:=decide (1≤s.size)&&decide (s.size≤16)&&(List.range s.size).all (okAt s)
theorem nameOk_false {s:ByteArray}{k:Nat}(hk:k<s.size) (h:okAt s k=false):nameOk s=false:=by
  unfold nameOk
  have:(List.range s.size).all (okAt s)=false:=by
    rw [Bool.eq_false_iff]
    intro e
    have:=List.all_eq_true.1 e k (List.mem_range.2 hk)
    rw [h] at this;cases this
  rw [this];simp
theorem nameOk_all {s:ByteArray}(h:∀ i,i<s.size→okAt s i=true):nameOk s=(decide (1≤s.size)&&decide (s.size≤16)):=by
  unfold nameOk
  have:(List.range s.size).all (okAt s)=true:=List.all_eq_true.2 fun i hi=>h i (List.mem_range.1 hi)
  rw [this];simp
theorem byte_at {s:ByteArray}{k:Nat}(hk:k<s.size):∃ b,s.data.toList[k]? = some b:=⟨_,List.getElem?_eq_getElem (by simpa using hk)⟩
theorem Name_spec (s:ByteArray):Ct Pr F_tags_Name [.string s] .one [.bool] [] emp (fun r Bs=>r.1=nameOk s∧Bs=[]):=by
  refine spec1 c_tags_Name fun B _=>?_
  have fin:∀ {x:Bool}{As:List HP},x=nameOk s→Ent B As (Ret B (ss:=[.bool]) (fun r Bs=>r.1=nameOk s∧Bs=[]) (x,())):=fun h=>xkeep (l:=[]) (xret ⟨h,rfl⟩)
  unfold tags_Name
  refine xrange (by kernel_rfl) fun r=>?_
  refine xloop0 (fun n As'=>∃ k,n=s.size - k∧k≤s.size∧As'=[IterO r s k]∧∀ i,i<k→okAt s i=true) s.size ⟨0,by omega,by omega,rfl,fun i hi=>by omega⟩ ?_
  rintro n As' K ⟨k,rfl,hk,rfl,hall⟩ hK
  refine xnext (fun hp=>?_) (fun hp=>?_)
  · refine xiff rfl (fin ?_)
    rw [nameOk_all (fun i hi=>hall i (by omega)),Bool.eq_iff_iff]
    simp only [Bool.and_eq_true,decide_eq_true_eq]
    omega
  obtain ⟨b,hb⟩:=byte_at hp
  have hok:okAt s k=(letterB b||(decide (0<k)&&moreB b)):=by simp only [okAt,hb]
  refine xift rfl ?_
  by_cases ha:b.toNat<128
  · rw [Go.Cf.decode_ascii hb ha]
    dsimp only
    have next:okAt s k=true→Ent B [IterO r s (k+1)] K:=fun h=>hK (s.size - (k+1)) _ (by omega) ⟨k+1,rfl,by omega,rfl,fun i hi=>by
      by_cases e:i=k
      · subst e;exact h
      · exact hall i (by omega)⟩
    refine xjoin1 (fun(x:Bool) As'=>As'=[IterO r s (k+1)]∧x=letterB b) (fun K1 h1=>xif (fun e=>h1 _ _ ⟨rfl,?_⟩) (fun e=>h1 _ _ ⟨rfl,?_⟩)) ?_
    · rw [e];symm;simp [letterB] at *;omega
    · rw [Bool.eq_iff_iff];simp [letterB] at *;omega
    rintro x As2 ⟨rfl,rfl⟩
    refine xjoin (xif (fun e=>next (by rw [hok,e];rfl)) (fun e=>xjoin (xif (fun e0=>?_) (fun e0=>?_))))
    · refine xif (fun e1=>next ?_) (fun e1=>fin ?_)
      · rw [hok];simp [moreB] at *;omega
      · symm;refine nameOk_false hp ?_
        rw [hok,e];simp [moreB] at *;omega
    · refine xiff rfl (fin ?_)
      symm;refine nameOk_false hp ?_
      rw [hok,e];simp at *;omega
  · have h128:=Go.Cf.decode_other hb ha
    have hbad:nameOk s=false:=nameOk_false hp (by rw [hok];simp [letterB,moreB] at *;omega)
    refine xjoin1 (fun(x:Bool) As'=>x=false) (fun K1 h1=>xif (fun e=>h1 _ _ ?_) (fun e=>h1 _ _ ?_)) ?_
    · simp at e;omega
    · simp;omega
    rintro x As2 rfl
    refine xjoin (xiff rfl (xjoin (xif (fun e0=>xif (fun e1=>?_) (fun e1=>fin hbad.symm)) (fun e0=>xiff rfl (fin hbad.symm)))))
    simp at e1;omega
end Go.Cx
namespace Go.Cx
open Go Go.Cf
set_option linter.unusedVariables false
set_option maxRecDepth 100000
variable {B:Base}{As F:List HP}
theorem xjoin5 {s t u v x:Sh}{body:(s.ty→t.ty→u.ty→v.ty→x.ty→WP)→WP}{rest:s.ty→t.ty→u.ty→v.ty→x.ty→WP}(J:s.ty→t.ty→u.ty→v.ty→x.ty→List HP→Prop)
    (h1:∀ K:s.ty→t.ty→u.ty→v.ty→x.ty→WP,(∀ a b c d e As',J a b c d e As'→Ent B As' (K a b c d e))→Ent B As (body K)) (h2:∀ a b c d e As',J a b c d e As'→Ent B As' (rest a b c d e)):Ent B As (XJoin [s,t,u,v,x] body rest):=h1 rest h2
structure RE where
  kind:Int
  time:Int
  tag:ByteArray
  val:Int
  id:Int
abbrev rec0:RE:=⟨0,0,ByteArray.empty,0,0⟩
abbrev RE.v (r:RE):Value:=.agg #[.int .i64 r.kind,.int .i64 r.time,.string r.tag,.int .i64 r.val,.int .i64 r.id]
abbrev RE.cells (r:RE):List Value:=[.int .i64 r.kind,.int .i64 r.time,.string r.tag,.int .i64 r.val,.int .i64 r.id]
def withinB (v lo hi:Int):Bool:=decide (v≥lo)&&decide (v≤hi)
def kindR (k:Int):Option (Bool×Bool×Bool×Int×Int):=
  if k=1 then some (true,true,false,-1099511627776,1099511627776)
  else if k=2 then some (true,true,false,1,4)
  else if k=3∨k=4 then some (false,true,false,1,1099511627776)
  else if k=5 then some (false,false,true,1,1099511627776)
  else if k=6 then some (false,true,true,0,255)
  else none
def checkR (r:RE):Int:=match kindR r.kind with
  | none=>28
  | some (tg,vl,ids,lo,hi)=>
    if ((!tg && !(r.tag.toList == ByteArray.empty.toList))||((!vl&&r.val != 0)||(!ids&&r.id != 0)))=true then 23
    else if (!withinB r.time 0 1099511627776)=true then 3
    else if (tg && !nameOk r.tag)=true then 8
    else if ((vl && !withinB r.val lo hi)||(ids && !withinB r.id 1 1099511627776))=true then 3
    else 0
theorem within_spec (v lo hi:Int):Ct Pr F_record_within [.int .i64 v,.int .i64 lo,.int .i64 hi] .one [.bool] [] emp (fun t Bs=>t.1=withinB v lo hi∧Bs=[]):=by
  refine spec1 c_record_within fun B _=>?_
  unfold record_within
  exact xret ⟨rfl,rfl⟩
theorem checkR_spec (r:RE):Ct Pr F_record_Check [r.v] .one [.int .i64] [] emp (fun t Bs=>t.1=checkR r∧Bs=[]):=by
  refine spec1 c_record_Check fun B _=>?_
  have fin:∀ {x:Int}{As:List HP},x=checkR r→Ent B As (Ret B (ss:=[.int .i64]) (fun t Bs=>t.1=checkR r∧Bs=[]) (x,())):=fun h=>xkeep (l:=[]) (xret ⟨h,rfl⟩)
  unfold record_Check
  refine xnew fun b=>xget (h:=?_)
  -- behind the kinds
  refine xjoin5 (fun(tg:Bool) (lo hi:Int) (vl ids:Bool) As'=>kindR r.kind=some (tg,vl,ids,lo,hi)∧As'=[Blk b r.cells]) (fun K hK=>?_) ?_
  · refine xif (fun h=>hK _ _ _ _ _ _ ⟨?_,rfl⟩) (fun h=>xjoin (xif (fun h2=>hK _ _ _ _ _ _ ⟨?_,rfl⟩) (fun h2=>xjoin1 (fun(x:Bool) As'=>x=(r.kind == 3||r.kind == 4)∧As'=[Blk b r.cells]) (fun K1 hK1=>xif (fun h3=>hK1 _ _ ⟨?_,rfl⟩) (fun h3=>hK1 _ _ ⟨?_,rfl⟩)) ?_)))
    · have:=eq_of_beq h;unfold kindR;rw [if_pos this]
    · have:=eq_of_beq h2;unfold kindR;rw [if_neg (by simpa using h),if_pos this]
    · rw [h3];rfl
    · rw [h3];rfl
    · rintro x _ ⟨rfl,rfl⟩
      have n1:r.kind≠1:=by simpa using h
      have n2:r.kind≠2:=by simpa using h2
      refine xjoin (xif (fun h3=>hK _ _ _ _ _ _ ⟨?_,rfl⟩) (fun h3=>?_))
      · unfold kindR;rw [if_neg n1,if_neg n2,if_pos (by simpa using h3)]
      have n3:¬ (r.kind=3∨r.kind=4):=by simpa using h3
      refine xjoin (xif (fun h5=>hK _ _ _ _ _ _ ⟨?_,rfl⟩) (fun h5=>xif (fun h6=>hK _ _ _ _ _ _ ⟨?_,rfl⟩) (fun h6=>fin ?_)))
      · have:=eq_of_beq h5;unfold kindR;rw [if_neg n1,if_neg n2,if_neg n3,if_pos this]
      · have:=eq_of_beq h6;unfold kindR;rw [if_neg n1,if_neg n2,if_neg n3,if_neg (by simpa using h5),if_pos this]
      · unfold checkR kindR;rw [if_neg n1,if_neg n2,if_neg n3,if_neg (by simpa using h5),if_neg (by simpa using h6)]
  rintro tg lo hi vl ids _ ⟨hk,rfl⟩
  have hc:checkR r=if ((!tg && !(r.tag.toList == ByteArray.empty.toList))||((!vl&&r.val != 0)||(!ids&&r.id != 0)))=true then 23
    else if (!withinB r.time 0 1099511627776)=true then 3
    else if (tg && !nameOk r.tag)=true then 8
    else if ((vl && !withinB r.val lo hi)||(ids && !withinB r.id 1 1099511627776))=true then 3
    else 0:=by unfold checkR;rw [hk]
  clear hk
  refine xjoin1 (fun(x:Bool) As'=>x=(!tg && !(r.tag.toList == ByteArray.empty.toList))∧As'=[Blk b r.cells]) (fun K hK=>xif (fun h=>xget (h:=hK _ _ ⟨by rw [h];rfl,rfl⟩)) (fun h=>hK _ _ ⟨by rw [h];rfl,rfl⟩)) ?_
  rintro _ _ ⟨rfl,rfl⟩
  refine xjoin1 (fun(x:Bool) As'=>x=((!tg && !(r.tag.toList == ByteArray.empty.toList))||((!vl&&r.val != 0)||(!ids&&r.id != 0)))∧As'=[Blk b r.cells]) (fun K hK=>xif (fun h=>hK _ _ ⟨by rw [h];rfl,rfl⟩) (fun h=>?_)) ?_
  · refine xjoin1 (fun(x:Bool) As'=>x=(!vl&&r.val != 0)∧As'=[Blk b r.cells]) (fun K hK=>xif (fun h=>xget (h:=hK _ _ ⟨by rw [h];rfl,rfl⟩)) (fun h=>hK _ _ ⟨by rw [h];rfl,rfl⟩)) ?_
    rintro _ _ ⟨rfl,rfl⟩
    refine xjoin1 (fun(x:Bool) As'=>x=((!vl&&r.val != 0)||(!ids&&r.id != 0))∧As'=[Blk b r.cells]) (fun K hK=>xif (fun h=>hK _ _ ⟨by rw [h];rfl,rfl⟩) (fun h1=>xjoin (xif (fun h=>xget (h:=hK _ _ ⟨by rw [h1,h];rfl,rfl⟩)) (fun h=>hK _ _ ⟨by rw [h1,h];rfl,rfl⟩)))) ?_
    rintro _ _ ⟨rfl,rfl⟩
    exact hK _ _ ⟨by rw [h];rfl,rfl⟩
  rintro _ _ ⟨rfl,rfl⟩
  refine xif (fun h=>fin (by rw [hc,if_pos h])) (fun h1=>xget (h:=?_))
  rw [if_neg (by rw [h1];simp)] at hc
  refine xcall0 (within_spec _ _ _) rdb ?_
  rintro ⟨x,_⟩ _ ⟨hx,rfl⟩
  simp only at hx;subst hx
  refine app0 (ca1 (xif (fun h=>fin (by rw [hc,if_pos h])) (fun h2=>?_)))
  rw [if_neg (by rw [h2];simp)] at hc
  refine xjoin1 (fun(x:Bool) As'=>x=(tg && !nameOk r.tag)∧As'=[Blk b r.cells]) (fun K hK=>xif (fun h=>xget (h:=?_)) (fun h=>hK _ _ ⟨by rw [h];rfl,rfl⟩)) ?_
  · refine xcall0 (Name_spec _) rdb ?_
    rintro ⟨x,_⟩ _ ⟨hx,rfl⟩
    simp only at hx;subst hx
    exact app0 (ca1 (hK _ _ ⟨by rw [h];rfl,rfl⟩))
  rintro _ _ ⟨rfl,rfl⟩
  refine xif (fun h=>fin (by rw [hc,if_pos h])) (fun h3=>?_)
  rw [if_neg (by rw [h3];simp)] at hc
  refine xjoin1 (fun(x:Bool) As'=>x=(vl && !withinB r.val lo hi)∧As'=[Blk b r.cells]) (fun K hK=>xif (fun h=>xget (h:=?_)) (fun h=>hK _ _ ⟨by rw [h];rfl,rfl⟩)) ?_
  · refine xcall0 (within_spec _ _ _) rdb ?_
    rintro ⟨x,_⟩ _ ⟨hx,rfl⟩
    simp only at hx;subst hx
    exact app0 (ca1 (hK _ _ ⟨by rw [h];rfl,rfl⟩))
  rintro _ _ ⟨rfl,rfl⟩
  refine xjoin1 (fun(x:Bool) As'=>x=((vl && !withinB r.val lo hi)||(ids && !withinB r.id 1 1099511627776))∧As'=[Blk b r.cells]) (fun K hK=>xif (fun h=>hK _ _ ⟨by rw [h];rfl,rfl⟩) (fun h=>xjoin (xif (fun h4=>xget (h:=?_)) (fun h4=>hK _ _ ⟨by rw [h,h4];rfl,rfl⟩)))) ?_
  · refine xcall0 (within_spec _ _ _) rdb ?_
    rintro ⟨x,_⟩ _ ⟨hx,rfl⟩
    simp only at hx;subst hx
    exact app0 (ca1 (hK _ _ ⟨by rw [h,h4];rfl,rfl⟩))
  rintro _ _ ⟨rfl,rfl⟩
  exact xif (fun h=>fin (by rw [hc,if_pos h])) (fun h=>fin (by rw [hc,if_neg (by rw [h];simp)]))
end Go.Cx
namespace Go.Cx
open Go Go.Cf
set_option linter.unusedVariables false
set_option maxRecDepth 100000
variable {B:Base}{As F:List HP}
def numM (rest:List UInt8) (sh:Bool):Int×List UInt8×Bool:=if rest.length<8 then (0,rest,true) else (IntKind.i64.wrap ((beV (rest.take 8):Nat):Int),rest.drop 8,sh)
def finM (r:RE) (rest:List UInt8) (sh:Bool):RE×Int:=if sh=true then (rec0,1) else if 0<rest.length then (rec0,2) else if checkR r≠0 then (rec0,checkR r) else (r,0)
def tagged (k:Int) (a:Int×List UInt8×Bool):RE×Int:=match a.2.1 with
  | []=>(rec0,1)
  | n::r2=>if r2.length<n.toNat then (rec0,1) else
    finM ⟨k,a.1,⟨(r2.take n.toNat).toArray⟩,(numM (r2.drop n.toNat) a.2.2).1,0⟩ (numM (r2.drop n.toNat) a.2.2).2.1 (numM (r2.drop n.toNat) a.2.2).2.2
def getK (k:Int) (a:Int×List UInt8×Bool):RE×Int:=
  if k=1∨k=2 then tagged k a
  else if k=5 then finM ⟨k,a.1,ByteArray.empty,0,(numM a.2.1 a.2.2).1⟩ (numM a.2.1 a.2.2).2.1 (numM a.2.1 a.2.2).2.2
  else if k=6 then finM ⟨k,a.1,ByteArray.empty,(numM (numM a.2.1 a.2.2).2.1 (numM a.2.1 a.2.2).2.2).1,(numM a.2.1 a.2.2).1⟩ (numM (numM a.2.1 a.2.2).2.1 (numM a.2.1 a.2.2).2.2).2.1 (numM (numM a.2.1 a.2.2).2.1 (numM a.2.1 a.2.2).2.2).2.2
  else finM ⟨k,a.1,ByteArray.empty,(numM a.2.1 a.2.2).1,0⟩ (numM a.2.1 a.2.2).2.1 (numM a.2.1 a.2.2).2.2
def getM (bs:List UInt8):RE×Int:=match bs with
  | []=>(rec0,1)
  | k::rest=>if withinB (k.toNat:Int) 1 6=true then getK k.toNat (numM rest false) else (rec0,28)
theorem getM_bad {k:UInt8}{rest:List UInt8}(h:withinB (k.toNat:Int) 1 6=false):getM (k::rest)=(rec0,28):=by
  show (if withinB (k.toNat:Int) 1 6=true then _ else _)=_
  rw [if_neg (by rw [h];simp)]
theorem getM_ok {k:UInt8}{rest:List UInt8}(h:withinB (k.toNat:Int) 1 6=true):getM (k::rest)=getK k.toNat (numM rest false):=by
  show (if withinB (k.toNat:Int) 1 6=true then _ else _)=_
  rw [if_pos h]
theorem numM_len (rest:List UInt8) (sh:Bool):(numM rest sh).2.1.length≤rest.length:=by
  unfold numM;split<;>simp
theorem number_spec (b2 b3:Nat) (s:Sl) (rest:List UInt8) (sh:Bool) (hc:s.n≤s.c) (hm:rest.length≤140737488351232) :
    Ct Pr F_record_Get_1 [.pointer (some ⟨b2,0,none⟩),.pointer (some ⟨b3,0,none⟩)] .one [.int .i64] [Blk b2 [s.v],Blk b3 [.bool sh]] (RAr U8 s rest)
      (fun t Bs=>t.1=(numM rest sh).1∧∃ s':Sl,Bs=[Blk b2 [s'.v],Blk b3 [.bool (numM rest sh).2.2]]∧s'.n≤s'.c∧∀ g,RAr U8 s rest g→RAr U8 s' (numM rest sh).2.1 g):=by
  refine spec1 c_record_Get_1 fun B hr=>?_
  have hn:=hr.1
  unfold record_Get_1
  refine xget (h:=xif_dec (fun h=>?_) (fun h=>?_))
  · have e:numM rest sh=(0,rest,true):=by unfold numM;rw [if_pos (by omega)]
    refine xset (h:=xret ⟨by rw [e],s,by rw [e],hc,fun g hg=>by rw [e];exact hg⟩)
  have h8:8≤rest.length:=by omega
  have e:numM rest sh=(IntKind.i64.wrap ((beV (rest.take 8):Nat):Int),rest.drop 8,sh):=by unfold numM;rw [if_neg (by omega)]
  refine xget (h:=xslc (by omega) (by omega) (by omega) (by omega) ?_)
  simp only [Int.toNat_natCast]
  have hcut:=hr.cut 0 8 s.c (by omega) (by omega) h8
  rw [List.drop_zero] at hcut
  have fc:Fro B (s.cut (Int.toNat 0) (Int.toNat 8) s.c 1) U8 (rest.take 8):=⟨hcut⟩
  have hq:(rest.take 8).length=8:=by simp;omega
  have hsn:=fc.rd.1
  refine xloop2 (fun(n:Nat) (v:Int) (i:Int) As=>∃ k:Nat,i=(k:Int)∧v=((beV ((rest.take 8).take k):Nat):Int)∧n=8 - k∧k≤8∧As=[Blk b2 [s.v],Blk b3 [.bool sh]]) 8 ⟨0,rfl,rfl,rfl,by omega,rfl⟩ ?_
  rintro n _ _ _ K ⟨k,rfl,rfl,rfl,hk,rfl⟩ hK
  refine xif_dec (fun h=>?_) (fun h=>?_)
  · have hk8:k<8:=by omega
    have hx:=List.getElem?_eq_getElem (l:=rest.take 8) (i:=k) (by omega)
    refine xidxn (h1:=by omega) (h:=fun _ _=>?_)
    refine xgetE hx (h:=xasrt (by decide) ?_)
    rw [or64 _ _ (beV_small hq hk8),wrap_succ k (by omega)]
    exact hK (8 - (k+1)) _ _ _ (by omega) ⟨k+1,rfl,by rw [beV_step hx],rfl,by omega,rfl⟩
  · have hk8:k=8:=by omega
    subst hk8
    rw [List.take_of_length_le (l:=rest.take 8) (by omega)]
    refine xget (h:=xslc (by omega) (by omega) (by omega) (by omega) (xset (h:=?_)))
    rw [show (8:Int).toNat=8 from rfl,show ((s.n:Int)).toNat=s.n by omega,show ((s.c:Int)).toNat=s.c by omega]
    refine xret ⟨by rw [e],s.cut 8 s.n s.c 1,by rw [e],by show s.n - 8≤s.c - 8;omega,fun g hg=>?_⟩
    have:=hg.cut 8 s.n s.c (by omega) hc (by omega)
    rw [List.take_of_length_le (by omega)] at this
    rw [e];exact this
theorem xstr' {P:Program}{t d e:TypeId}{s:Sl}{xs:List UInt8}{K:ByteArray→WP} [r:RdA B As s U8 xs] {a:Addr}(hp:s.p=some a) (hs:P.underlying t=some (.slice e)) (he:P.underlying e=some (.int .u8)) (hd:P.underlying d=some .string) (h:Ent B As (K ⟨xs.toArray⟩)) :
    Ent B As (XRun P (convert t d s.v) .str K):=by
  by_cases h0:0<xs.length
  · exact xstr h0 hs he hd h
  · intro w hw
    have hn:=(r.rd w hw).1
    obtain rfl:xs=[]:=List.eq_nil_of_length_eq_zero (by omega)
    obtain ⟨p,n,c⟩:=s
    simp only at hp hn
    subst hp
    obtain rfl:n=0:=hn.symm
    exact ⟨⟨#[]⟩,w,run_convert_bytes_back w t d e a c [] hs he hd fun j hj=>absurd hj (Nat.not_lt_zero _),h w hw⟩
def recPost (bs:List UInt8):Tup [.int .i64,.int .i64,.str,.int .i64,.int .i64,.int .i64]→List HP→Prop:=fun t Bs=>t.1=(getM bs).1.kind∧t.2.1=(getM bs).1.time∧t.2.2.1=(getM bs).1.tag∧t.2.2.2.1=(getM bs).1.val∧t.2.2.2.2.1=(getM bs).1.id∧t.2.2.2.2.2.1=(getM bs).2∧Bs=[]
theorem Get_rec (b:Sl) (bs:List UInt8) (hc:b.n≤b.c) (hm:bs.length≤140737488351232):Ct Pr F_record_Get [b.v] (.tup [some 5,none]) [.int .i64,.int .i64,.str,.int .i64,.int .i64,.int .i64] [] (RAr U8 b bs) (recPost bs):=by
  refine spec_gen (ss:=[.int .i64,.int .i64,.str,.int .i64,.int .i64,.int .i64]) c_record_Get fun B hr=>?_
  have fb:Fro B b U8 bs:=⟨hr⟩
  have hn:=hr.1
  have fin:∀ {r:RE}{e:Int}{As:List HP},getM bs=(r,e)→Ent B As (Ret B (recPost bs) (r.kind,r.time,r.tag,r.val,r.id,e,())):=fun h=>xkeep (l:=[]) (xret (by unfold recPost;rw [h];exact ⟨rfl,rfl,rfl,rfl,rfl,rfl,rfl⟩))
  show Ent B [] (record_Get b fun k tm tg v i e=>Ret B (recPost bs) (k,tm,tg,v,i,e,()))
  unfold record_Get
  refine xnew fun b1=>xif (fun h=>?_) (fun h=>?_)
  · have e:bs=[]:=List.eq_nil_of_length_eq_zero (by have:=eq_of_beq h;omega)
    iterate 5 (refine xset (h:=?_))
    iterate 5 (refine xget (h:=?_))
    exact fin (r:=rec0) (by rw [e];rfl)
  cases bs with
  | nil=>exact absurd h (by rw [←hn];simp)
  | cons k rest=>
  have hl:rest.length+1=b.n:=by simpa using hn
  refine xslc (by omega) (by omega) (by omega) (by omega) ?_
  rw [show (1:Int).toNat=1 from rfl,show ((b.n:Int)).toNat=b.n by omega,show ((b.c:Int)).toNat=b.c by omega]
  have hcut:=hr.cut 1 b.n b.c (by omega) hc (by simp;omega)
  rw [List.take_of_length_le (by simp;omega),List.drop_succ_cons,List.drop_zero] at hcut
  generalize hs1:b.cut 1 b.n b.c 1=s1
  have hs1c:s1.n≤s1.c:=by rw [←hs1];show b.n - 1≤b.c - 1;omega
  have hr1:RAr U8 s1 rest (frz B.W B.h0):=by rw [←hs1];exact hcut
  refine xnew fun b2=>xnew fun b3=>xset (h:=xset (h:=?_))
  refine xidx (E:=U8) (xs:=k::rest) (s:=b) (h0:=by decide) (h1:=by simp) (h:=fun y hy=>?_)
  obtain rfl:y=k:=by simpa using hy.symm
  refine xgetE (E:=U8) (xs:=y::rest) (x:=y) rfl (h:=?_)
  refine xnew fun b4=>?_
  iterate 5 (refine xset (h:=?_))
  have hy8:y.toNat<256:=by have:=y.toNat_lt;omega
  rw [wrap_id _ (by omega) (by omega)]
  refine xget (h:=?_)
  refine xcall0 (within_spec _ _ _) rdb ?_
  rintro ⟨x,_⟩ _ ⟨hx,rfl⟩
  simp only at hx;subst hx
  refine app0 (ca1 (xif (fun h=>?_) (fun h=>?_)))
  · iterate 5 (refine xset (h:=?_))
    iterate 5 (refine xget (h:=?_))
    exact fin (r:=rec0) (getM_bad (by simpa using h))
  have hg:=getM_ok (k:=y) (rest:=rest) (by simpa using h)
  have fr1:Fro B s1 U8 rest:=⟨hr1⟩
  have hlen:=numM_len rest false
  refine xcl (number_spec b2 b3 s1 rest false hs1c (by omega)) rdb ?_
  rintro ⟨r,_⟩ _ ⟨hr',s2,rfl,hs2c,hs2r⟩
  simp only at hr';subst hr'
  generalize ha:numM rest false=a at *
  have hr2:=hs2r _ hr1
  have fr2:Fro B s2 U8 a.2.1:=⟨hr2⟩
  have hn2:=hr2.1
  refine app2 (ca1 (xset (h:=xget (h:=?_))))
  refine xjoin1 (fun(x:Bool) As'=>x=((y.toNat:Int) == 1||(y.toNat:Int) == 2)∧As'=[Blk b2 [s2.v],Blk b3 [.bool a.2.2],Blk b4 (RE.cells ⟨y.toNat,a.1,ByteArray.empty,0,0⟩),Blk b1 rec0.cells]) (fun K1 hK1=>xif (fun h=>hK1 _ _ ⟨by rw [h];rfl,rfl⟩) (fun h=>hK1 _ _ ⟨by rw [h];rfl,rfl⟩)) ?_
  rintro _ _ ⟨rfl,rfl⟩
  refine xjoin0 (fun As'=>∃ (r:RE) (s':Sl) (rest':List UInt8) (sh':Bool),getM (y::rest)=finM r rest' sh'∧s'.n≤s'.c∧RAr U8 s' rest' (frz B.W B.h0)∧As'=[Blk b2 [s'.v],Blk b3 [.bool sh'],Blk b4 r.cells,Blk b1 rec0.cells]) (fun K1 hK1=>?_) ?_
  · refine xif (fun hx=>?_) (fun hx=>?_)
    · have hk:(y.toNat:Int)=1∨(y.toNat:Int)=2:=by simpa using hx
      rw [getK,if_pos hk] at hg
      refine xdraw (xjoin1 (fun(c:Bool) As'=>(match a.2.1 with
        | []=>c=true
        | n::r2=>c=decide (r2.length<n.toNat))∧As'=[Blk b2 [s2.v],Blk b3 [.bool a.2.2],Blk b4 (RE.cells ⟨y.toNat,a.1,ByteArray.empty,0,0⟩),Blk b1 rec0.cells]) (fun K2 hK2=>?_) ?_)
      · refine xget (h:=xif (fun h0=>hK2 _ _ ⟨?_,rfl⟩) (fun h0=>?_))
        · have:a.2.1=[]:=List.eq_nil_of_length_eq_zero (by have:=eq_of_beq h0;omega)
          rw [this]
        · cases he:a.2.1 with
          | nil=>rw [he] at hn2;exact absurd h0 (by rw [←hn2];simp)
          | cons n r2=>
            rw [he] at fr2 hn2
            have hl2:r2.length+1=s2.n:=by simpa using hn2
            have hn8:n.toNat<256:=by have:=n.toNat_lt;omega
            refine xget (h:=xget (h:=?_))
            refine xidx (E:=U8) (xs:=n::r2) (s:=s2) (h0:=by decide) (h1:=by simp) (h:=fun u hu=>?_)
            obtain rfl:u=n:=by simpa using hu.symm
            refine xgetE (E:=U8) (xs:=u::r2) (x:=u) rfl (h:=hK2 _ _ ⟨?_,rfl⟩)
            rw [he]
            show _=decide (r2.length<u.toNat)
            rw [wrap_id (u.toNat:Int) (by omega) (by omega),wrap_id _ (by omega) (by omega),Bool.eq_iff_iff]
            simp only [decide_eq_true_eq];omega
      · rintro c _ ⟨hc1,rfl⟩
        refine xif (fun h0=>?_) (fun h0=>?_)
        · iterate 5 (refine xset (h:=?_))
          iterate 5 (refine xget (h:=?_))
          refine fin (r:=rec0) ?_
          rw [hg]
          unfold tagged
          cases he:a.2.1 with
          | nil=>rfl
          | cons n r2=>
            rw [he] at hc1
            have:decide (r2.length<n.toNat)=true:=hc1.symm.trans h0
            show (if _ then _ else _)=_
            rw [if_pos (of_decide_eq_true this)]
        · cases he:a.2.1 with
          | nil=>
            rw [he] at hc1
            have hc1:c=true:=hc1
            rw [hc1] at h0;cases h0
          | cons n r2=>
            rw [he] at hc1 fr2 hn2 hr2
            have hc1:c=decide (r2.length<n.toNat):=hc1
            have hge:n.toNat≤r2.length:=by
              have:¬ r2.length<n.toNat:=of_decide_eq_false (hc1.symm.trans h0)
              omega
            have hg2:getM (y::rest)=finM ⟨y.toNat,a.1,⟨(r2.take n.toNat).toArray⟩,(numM (r2.drop n.toNat) a.2.2).1,0⟩ (numM (r2.drop n.toNat) a.2.2).2.1 (numM (r2.drop n.toNat) a.2.2).2.2:=by
              rw [hg];unfold tagged;rw [he]
              show (if _ then _ else _)=_
              rw [if_neg (by omega)]
            have hl2:r2.length+1=s2.n:=by simpa using hn2
            have hn8:n.toNat<256:=by have:=n.toNat_lt;omega
            have hrest:r2.length≤rest.length:=by rw [he] at hlen;simp at hlen;omega
            refine xget (h:=?_)
            refine xidx (E:=U8) (xs:=n::r2) (s:=s2) (h0:=by decide) (h1:=by simp) (h:=fun u hu=>?_)
            obtain rfl:u=n:=by simpa using hu.symm
            refine xgetE (E:=U8) (xs:=u::r2) (x:=u) rfl (h:=xdraw (xget (h:=?_)))
            rw [wrap_id (u.toNat:Int) (by omega) (by omega),wrap_id (1+(u.toNat:Int)) (by omega) (by omega),show 1+(u.toNat:Int)=((u.toNat+1:Nat):Int) by omega]
            refine xslc (by omega) (by omega) (by omega) (by omega) (xget (h:=xslc (by omega) (by omega) (by omega) (by omega) ?_))
            simp only [Int.toNat_natCast]
            have hcutA:=hr2.cut 1 (u.toNat+1) s2.c (by omega) (by omega) (by simp;omega)
            have hcutB:=hr2.cut (u.toNat+1) s2.n s2.c (by omega) (by omega) (by simp;omega)
            have eA:((u::r2).take (u.toNat+1)).drop 1=r2.take u.toNat:=by simp
            have eB:((u::r2).take s2.n).drop (u.toNat+1)=r2.drop u.toNat:=by
              rw [List.take_of_length_le (by simp;omega)];simp
            rw [eA] at hcutA
            rw [eB] at hcutB
            have fA:Fro B (s2.cut (Int.toNat 1) (u.toNat+1) s2.c 1) U8 (r2.take u.toNat):=⟨hcutA⟩
            obtain ⟨ad,had⟩:∃ ad,(s2.cut (Int.toNat 1) (u.toNat+1) s2.c 1).p=some ad:=by
              obtain ⟨_,_,hq⟩:=hr2
              obtain ⟨bb,oo,_,_,_,_,hp,_⟩:=hq (by omega)
              unfold Sl.cut
              rw [hp]
              split
              · exact ⟨_,rfl⟩
              · exact ⟨_,rfl⟩
            refine xstr' (e:=T_uint8) had (by kernel_rfl) (by kernel_rfl) (by kernel_rfl) ?_
            refine xchk (h:=xset (h:=xchk (h:=xset (h:=?_))))
            have fB:Fro B (s2.cut (u.toNat+1) s2.n s2.c 1) U8 (r2.drop u.toNat):=⟨hcutB⟩
            have hcB:(s2.cut (u.toNat+1) s2.n s2.c 1).n≤(s2.cut (u.toNat+1) s2.n s2.c 1).c:=by show s2.n - _≤s2.c - _;omega
            refine xcl (number_spec b2 b3 (s2.cut (u.toNat+1) s2.n s2.c 1) (r2.drop u.toNat) a.2.2 hcB (by simp;omega)) rdb ?_
            rintro ⟨r,_⟩ _ ⟨hr',s3,rfl,hs3c,hs3r⟩
            simp only at hr';subst hr'
            refine app2 (ca1 (xset (h:=?_)))
            exact hK1 _ ⟨_,s3,_,_,hg2,hs3c,hs3r _ hcutB,rfl⟩
    · have hk:¬ ((y.toNat:Int)=1∨(y.toNat:Int)=2):=by simpa using hx
      rw [getK,if_neg hk] at hg
      have hlen2:=numM_len a.2.1 a.2.2
      refine xjoin (xif (fun h5=>?_) (fun h5=>?_))
      · rw [if_pos (eq_of_beq h5)] at hg
        refine xcl (number_spec b2 b3 s2 a.2.1 a.2.2 hs2c (by omega)) rdb ?_
        rintro ⟨r,_⟩ _ ⟨hr',s3,rfl,hs3c,hs3r⟩
        simp only at hr';subst hr'
        refine app2 (ca1 (xset (h:=?_)))
        exact hK1 _ ⟨_,s3,_,_,hg,hs3c,hs3r _ hr2,rfl⟩
      · have n5:¬ (y.toNat:Int)=5:=by simpa using h5
        rw [if_neg n5] at hg
        refine xjoin (xif (fun h6=>?_) (fun h6=>?_))
        · rw [if_pos (eq_of_beq h6)] at hg
          refine xcl (number_spec b2 b3 s2 a.2.1 a.2.2 hs2c (by omega)) rdb ?_
          rintro ⟨r,_⟩ _ ⟨hr',s3,rfl,hs3c,hs3r⟩
          simp only at hr';subst hr'
          refine app2 (ca1 (xset (h:=?_)))
          have hr3:=hs3r _ hr2
          have fr3:Fro B s3 U8 (numM a.2.1 a.2.2).2.1:=⟨hr3⟩
          refine xcl (number_spec b2 b3 s3 (numM a.2.1 a.2.2).2.1 (numM a.2.1 a.2.2).2.2 hs3c (by omega)) rdb ?_
          rintro ⟨r,_⟩ _ ⟨hr',s4,rfl,hs4c,hs4r⟩
          simp only at hr';subst hr'
          refine app2 (ca1 (xset (h:=?_)))
          exact hK1 _ ⟨_,s4,_,_,hg,hs4c,hs4r _ hr3,rfl⟩
        · rw [if_neg (by simpa using h6)] at hg
          refine xcl (number_spec b2 b3 s2 a.2.1 a.2.2 hs2c (by omega)) rdb ?_
          rintro ⟨r,_⟩ _ ⟨hr',s3,rfl,hs3c,hs3r⟩
          simp only at hr';subst hr'
          refine app2 (ca1 (xset (h:=?_)))
          exact hK1 _ ⟨_,s3,_,_,hg,hs3c,hs3r _ hr2,rfl⟩
  rintro _ ⟨r,s3,rest3,sh3,hf,hs3c,hr3,rfl⟩
  rw [finM] at hf
  have hn3:=hr3.1
  refine xget (h:=xif (fun h0=>?_) (fun h0=>?_))
  · iterate 5 (refine xset (h:=?_))
    iterate 5 (refine xget (h:=?_))
    exact fin (r:=rec0) (by rw [hf,if_pos h0])
  rw [if_neg (by rw [h0];simp)] at hf
  refine xget (h:=xif_dec (fun h0=>?_) (fun h0=>?_))
  · iterate 5 (refine xset (h:=?_))
    iterate 5 (refine xget (h:=?_))
    exact fin (r:=rec0) (by rw [hf,if_pos (by omega)])
  rw [if_neg (by omega)] at hf
  iterate 5 (refine xget (h:=?_))
  refine xcall0 (checkR_spec r) rdb ?_
  rintro ⟨x,_⟩ _ ⟨hx,rfl⟩
  simp only at hx;subst hx
  refine app0 (ca1 (xif (fun h0=>?_) (fun h0=>?_)))
  · iterate 5 (refine xset (h:=?_))
    iterate 5 (refine xget (h:=?_))
    exact fin (r:=rec0) (by rw [hf,if_pos (by simpa using h0)])
  · iterate 5 (refine xget (h:=?_))
    iterate 5 (refine xset (h:=?_))
    iterate 5 (refine xget (h:=?_))
    exact fin (r:=r) (by rw [hf,if_neg (by simpa using h0)])
end Go.Cx
namespace Go.Cx
open Go Go.Cf
set_option linter.unusedVariables false
set_option maxRecDepth 100000
variable {B:Base}{As F:List HP}
def byU (x:Int):UInt8:=UInt8.ofNat (IntKind.u8.wrap x).toNat
theorem byU_toNat (x:Int):((byU x).toNat:Int)=IntKind.u8.wrap x:=by
  have e1:(2 ^ IntKind.u8.bits:Int)=256:=by decide
  have e3:IntKind.u8.signed=false:=rfl
  have h:0≤IntKind.u8.wrap x∧IntKind.u8.wrap x<256:=by
    simp only [IntKind.wrap,e1,e3,Bool.false_and]
    simp
    omega
  unfold byU
  rw [UInt8.toNat_ofNat']
  omega
def byteI (v:Int) (i:Nat):UInt8:=byU (Int.fdiv v (2 ^ (min i 64)))
def eightI (v:Int):List UInt8:=(List.range 8).map fun j=>byteI v (56 - 8*j)
theorem eightI_len (v:Int):(eightI v).length=8:=by simp [eightI]
theorem eightI_get (v:Int) {j:Nat}(h:j<8):(eightI v)[j]? = some (byteI v (56 - 8*j)):=by
  unfold eightI;rw [List.getElem?_map,List.getElem?_range h];rfl
theorem eight_spec (b l:Sl) (xs:List UInt8) (vs:List Int) (hm:xs.length+8*vs.length≤140737488351232):Ct Pr F_record_eight [b.v,l.v] .one [.slice] [Ar U8 b xs] (RAr I64 l vs) (fun t Bs=>Bs=[Ar U8 t.1 (xs++vs.flatMap eightI)]):=by
  refine spec1 c_record_eight fun B hr=>?_
  have fl:Fro B l I64 vs:=⟨hr⟩
  have hn:=hr.1
  unfold record_eight
  refine xloop2 (fun n (s:Sl) (x:Int) As'=>∃ k:Nat,x=(k:Int)∧n=vs.length - k∧k≤vs.length∧As'=[Ar U8 s (xs++(vs.take k).flatMap eightI)]) vs.length ⟨0,rfl,rfl,by omega,by simp⟩ ?_
  rintro n s _ _ K ⟨k,rfl,rfl,hk,rfl⟩ hK
  have hlen:∀ (l:List Int),(l.flatMap eightI).length=8*l.length:=by
    intro l
    induction l with
    | nil=>rfl
    | cons y l ih=>rw [List.flatMap_cons,List.length_append,ih,eightI_len,List.length_cons];omega
  refine xif_dec (fun h=>?_) (fun h=>?_)
  · have hlt:k<vs.length:=by omega
    have hv:=List.getElem?_eq_getElem hlt
    refine xidxn (E:=I64) (xs:=vs) (s:=l) (h1:=hlt) (h:=fun v hv=>?_)
    refine xgetE (E:=I64) (xs:=vs) hv (h:=?_)
    refine xloop2 (fun n (s:Sl) (x:Int) As'=>∃ j:Nat,x=56 - 8*(j:Int)∧n=8 - j∧j≤8∧As'=[Ar U8 s (xs++(vs.take k).flatMap eightI++(eightI v).take j)]) 8 ⟨0,rfl,rfl,by omega,by simp⟩ ?_
    rintro n s2 _ _ K2 ⟨j,rfl,rfl,hj,rfl⟩ hK2
    have hl2:=hlen (vs.take k)
    have hl3:(vs.take k).length≤vs.length:=by simp;omega
    refine xif_dec (fun h2=>?_) (fun h2=>?_)
    · have hj8:j<8:=by omega
      refine xasrt (by omega) (xnew fun b3=>?_)
      have e:(56 - 8*(j:Int)).toNat=56 - 8*j:=by omega
      refine xapp1 (E:=U8) (byteI v (56 - 8*j)) (hx:=?_) (hb:=?_) (h:=fun s'=>?_)
      · show [Value.int .u8 ((byteI v (56 - 8*j)).toNat:Int)]=_
        unfold byteI
        rw [byU_toNat,e]
      · have h5:((eightI v).take j).length≤8:=by rw [List.length_take,eightI_len];omega
        rw [List.length_append,List.length_append];omega
      · rw [wrap_id _ (by omega) (by omega)]
        refine hK2 (8 - (j+1)) _ _ _ (by omega) ⟨j+1,by omega,rfl,by omega,?_⟩
        rw [List.take_add_one,eightI_get v hj8]
        simp
    · have hj8:j=8:=by omega
      subst hj8
      rw [wrap_succ k (by omega),List.take_of_length_le (l:=eightI v) (by rw [eightI_len];omega)]
      refine hK (vs.length - (k+1)) _ _ _ (by omega) ⟨k+1,rfl,rfl,by omega,?_⟩
      rw [List.take_add_one,hv]
      simp
  · have hk:k=vs.length:=by omega
    subst hk
    rw [List.take_of_length_le (by omega)]
    exact xret rfl
def putM (r:RE):List UInt8:=(byU r.kind::eightI r.time) ++
  (if r.kind=1∨r.kind=2 then (byU r.tag.size::r.tag.data.toList)++eightI r.val
  else if r.kind=5 then eightI r.id
  else if r.kind=6 then eightI r.id++eightI r.val
  else eightI r.val)
def putE (r:RE):List UInt8×Int:=if checkR r≠0 then ([],checkR r) else (putM r,0)
theorem Put_rec (r:RE) (hs:r.tag.size≤1000000):Ct Pr F_record_Put [r.v] (.tup [none,none]) [.slice,.int .i64] [] emp (fun t Bs=>t.2.1=(putE r).2∧Bs=[Ar U8 t.1 (putE r).1]):=by
  refine spec2 c_record_Put fun B _=>?_
  unfold record_Put
  refine xnew fun b=>?_
  iterate 5 (refine xget (h:=?_))
  refine xcall0 (checkR_spec r) rdb ?_
  rintro ⟨x,_⟩ _ ⟨hx,rfl⟩
  simp only at hx;subst hx
  refine app0 (ca1 (xif (fun h=>?_) (fun h=>?_)))
  · have h':checkR r≠0:=by simpa using h
    have e:putE r=([],checkR r):=by unfold putE;rw [if_pos h']
    refine xnone U8 (xuse [Ar U8 ⟨none,0,0⟩ []] (xret ⟨by rw [e],by rw [e]⟩))
  have h':checkR r=0:=by simpa using h
  have e:putE r=(putM r,0):=by unfold putE;rw [if_neg (by rw [h'];simp)]
  have fin:∀ {s:Sl}{G:List HP}{ys:List UInt8},ys=putM r→Ent B (Ar U8 s ys::G) (Ret B (ss:=[.slice,.int .i64]) (fun t Bs=>t.2.1=(putE r).2∧Bs=[Ar U8 t.1 (putE r).1]) (s,0,())):=by
    rintro s G _ rfl
    exact xkeep (l:=[Ar U8 s (putM r)]) (xret ⟨by rw [e],by rw [e]⟩)
  refine xget (h:=xnew fun b1=>xget (h:=xnew fun b2=>?_))
  refine xfold1 1 (Q:=Ar U8 ⟨some ⟨b1,0,none⟩,1,1⟩ [byU r.kind]) (fun g hg=>⟨[],blk_ar [byU r.kind] 1 rfl (by show [Value.int .u8 ((byU r.kind).toNat:Int)]=_;rw [byU_toNat]) hg⟩) ?_
  have eight:∀ {As:List HP}(s:Sl) (xs:List UInt8) (bk:Nat) (vs:List Int) (cs:List Value) (_:flat I64 vs=cs) {G G':List HP}{K:Sl→WP}(k:Nat) (_:vs.length=k) (_:k≤2) (_:xs.length≤2000000) [q:Find (Blk bk cs) As G] [q2:Find (Ar U8 s xs) G G'],
      (∀ s',Ent B (Ar U8 s' (xs++vs.flatMap eightI)::G') (K s'))→Ent B As (XCall Pr F_record_eight [s.v,.slice (some ⟨bk,0,none⟩) k k] .one [.slice] K):=by
    rintro As s xs bk vs cs hcs G G' K k hk hk2 hx q q2 hK
    refine Ent.perm q.perm ?_
    refine xfold1 0 (Q:=Ar I64 ⟨some ⟨bk,0,none⟩,k,k⟩ vs) (fun g hg=>⟨[],blk_ar vs k hk hcs hg (by omega)⟩) ?_
    refine Ent.perm ((q2.perm.cons _).trans (List.Perm.swap _ _ _)) ?_
    refine xcall1 0 (eight_spec s ⟨some ⟨bk,0,none⟩,k,k⟩ xs vs (by omega)) rdb ?_
    rintro ⟨s',_⟩ _ rfl
    exact app1 (ca1 (xdrop 1 (hK s')))
  refine eight ⟨some ⟨b1,0,none⟩,1,1⟩ [byU r.kind] b2 [r.time] [.int .i64 r.time] rfl 1 rfl (by decide) (by simp) fun s=>?_
  have e1:[byU r.kind]++[r.time].flatMap eightI=byU r.kind::eightI r.time:=by simp
  rw [e1]
  have hel:=eightI_len r.time
  refine xget (h:=?_)
  refine xjoin1 (fun(x:Bool) As'=>x=(r.kind == 1||r.kind == 2)∧As'=[Ar U8 s (byU r.kind::eightI r.time),Blk b r.cells]) (fun K1 hK1=>xif (fun h=>xuse' (hK1 _ _ ⟨by rw [h];rfl,rfl⟩)) (fun h=>xuse' (hK1 _ _ ⟨by rw [h];rfl,rfl⟩))) ?_
  rintro _ _ ⟨rfl,rfl⟩
  refine xif (fun h1=>?_) (fun h1=>?_)
  · have h1':r.kind=1∨r.kind=2:=by simpa using h1
    refine xdraw (xget (h:=xget (h:=xnew fun b3=>?_)))
    refine xapp1 (E:=U8) (byU r.tag.size) (hx:=by show [Value.int .u8 ((byU r.tag.size).toNat:Int)]=_;rw [byU_toNat]) (hb:=by rw [List.length_cons,hel];decide) (h:=fun s1=>xchk (h:=?_))
    refine xappS (by kernel_rfl) (hb:=by rw [List.length_append,List.length_cons,hel,List.length_singleton];omega) (h:=fun s2=>xget (h:=xnew fun b4=>?_))
    have h9:((byU r.kind::eightI r.time)++[byU r.tag.size]++r.tag.data.toList).length≤2000000:=by
      have h8:r.tag.data.toList.length=r.tag.size:=by simp
      rw [List.length_append,List.length_append,List.length_cons,hel,h8,List.length_singleton];omega
    refine eight s2 ((byU r.kind::eightI r.time)++[byU r.tag.size]++r.tag.data.toList) b4 [r.val] [.int .i64 r.val] rfl 1 rfl (by decide) h9 fun s3=>?_
    refine fin ?_
    unfold putM
    rw [if_pos h1']
    simp
  · have h1':¬ (r.kind=1∨r.kind=2):=by simpa using h1
    refine xif (fun h2=>?_) (fun h2=>?_)
    · refine xget (h:=xnew fun b4=>?_)
      refine eight s (byU r.kind::eightI r.time) b4 [r.id] [.int .i64 r.id] rfl 1 rfl (by decide) (by rw [List.length_cons,hel];decide) fun s3=>?_
      refine fin ?_
      unfold putM
      rw [if_neg h1',if_pos (eq_of_beq h2)];simp
    · refine xif (fun h3=>?_) (fun h3=>?_)
      · refine xget (h:=xget (h:=xnew fun b4=>?_))
        refine eight s (byU r.kind::eightI r.time) b4 [r.id,r.val] [.int .i64 r.id,.int .i64 r.val] rfl 2 rfl (by decide) (by rw [List.length_cons,hel];decide) fun s3=>?_
        refine fin ?_
        unfold putM
        rw [if_neg h1',if_neg (by simpa using h2),if_pos (eq_of_beq h3)];simp
      · refine xget (h:=xnew fun b4=>?_)
        refine eight s (byU r.kind::eightI r.time) b4 [r.val] [.int .i64 r.val] rfl 1 rfl (by decide) (by rw [List.length_cons,hel];decide) fun s3=>?_
        refine fin ?_
        unfold putM
        rw [if_neg h1',if_neg (by simpa using h2),if_neg (by simpa using h3)];simp
end Go.Cx
namespace Go.Cx
open Go Go.Cf
set_option linter.unusedVariables false
set_option maxRecDepth 100000
variable {B:Base}{As F:List HP}
theorem app6 {A1 A2 A3 A4 A5 A6:HP}{F:List HP}{φ:WP}(h:Ent B (A1::A2::A3::A4::A5::A6::F) φ):Ent B ([A1,A2,A3,A4,A5,A6]++F) φ:=h
structure XM where
  L:List KY
  last:Int
abbrev xm0:XM:=⟨[],-1⟩
abbrev putX (x:XM) (t n:Int):XM:=⟨insK (t,n) x.L,if n>x.last then n else x.last⟩
def stepX (l:LM) (x:XM) (n:Int):XM:=if (getM (getL l n).1).2=0 then putX x (getM (getL l n).1).1.time n else x
def openTo (l:LM) (k:Nat):XM:=(List.range k).foldl (fun x (i:Nat)=>stepX l x (l.lo+i)) xm0
def openX (l:LM):XM:=openTo l (l.next - l.lo).toNat
theorem openTo_succ (l:LM) (k:Nat):openTo l (k+1)=stepX l (openTo l k) (l.lo+k):=by
  unfold openTo;rw [List.range_succ,List.foldl_append];rfl
theorem openTo_len (l:LM):∀ k:Nat,(openTo l k).L.length≤k
  | 0=>by simp [openTo]
  | k+1=>by
    have ih:=openTo_len l k
    rw [openTo_succ]
    unfold stepX
    split
    · unfold putX
      simp only
      by_cases hm:((getM (getL l (l.lo+k)).1).1.time,(l.lo+k:Int))∈(openTo l k).L
      · rw [ins_mem hm];omega
      · rw [ins_len hm];omega
    · omega
def IdxObj (x d l:Option Addr) (m:XM):HP:=fun h=>∃ b q,x=some ⟨b,0,none⟩∧star [Blk b [.pointer d,.pointer l,.pointer q,.int .i64 m.last],TreeObj q m.L] h
theorem xindex (i:Nat) {x d l:Option Addr}{m:XM}{F:List HP} [p:Pick i As (IdxObj x d l m) F] {φ:WP}
    (k:∀ b q,x=some ⟨b,0,none⟩→Ent B (Blk b [.pointer d,.pointer l,.pointer q,.int .i64 m.last]::TreeObj q m.L::F) φ):Ent B As φ:=by
  refine Ent.perm p.perm ?_
  rintro w ⟨g,⟨a,c,⟨b,q,hq,pa⟩,pc,d,sa,sc⟩,hm,hu⟩
  exact k b q hq w ⟨g,(star_append [_,_] F).2 ⟨a,c,pa,pc,d,sa,sc⟩,hm,hu⟩
theorem xindex_back (b:Nat) (q d l:Option Addr) (m:XM) {G:List HP} [p:Split [Blk b [.pointer d,.pointer l,.pointer q,.int .i64 m.last],TreeObj q m.L] As G] {φ:WP}
    (k:Ent B (IdxObj (some ⟨b,0,none⟩) d l m::G) φ):Ent B As φ:=
  xfold [Blk b [.pointer d,.pointer l,.pointer q,.int .i64 m.last],TreeObj q m.L] (IdxObj (some ⟨b,0,none⟩) d l m) (fun g hg=>⟨b,q,rfl,hg⟩) k
theorem putX_spec (x d l:Option Addr) (m:XM) (t n:Int) (hL:m.L.length≤4000000000000000):Ct Pr F_index_Index_put [.pointer x,.int .i64 t,.int .i64 n] (.tup []) [] [IdxObj x d l m] emp (fun _ Bs=>Bs=[IdxObj x d l (putX m t n)]):=by
  refine spec0 c_index_Index_put fun B _=>?_
  unfold index_Index_put
  refine xindex 0 fun b q hx=>?_
  subst hx
  refine xnil (xget (h:=?_))
  refine xcl (Put_tree q m.L (t,n) n hL) rdb ?_
  rintro ⟨c,_⟩ _ rfl
  refine app1 (ca1 (xnil (xget (h:=xnil (xset (h:=?_))))))
  exact xindex_back b q d l (putX m t n) (xret rfl)
theorem clear_spec (b:Nat) (d l q:Option Addr) (n:Int):Ct Pr F_index_Index_clear [.pointer (some ⟨b,0,none⟩)] (.tup []) [] [Blk b [.pointer d,.pointer l,.pointer q,.int .i64 n]] emp (fun _ Bs=>Bs=[IdxObj (some ⟨b,0,none⟩) d l xm0]):=by
  refine spec0 c_index_Index_clear fun B _=>?_
  unfold index_Index_clear
  refine xcl New_tree rdb ?_
  rintro ⟨q',e,_⟩ _ ⟨_,rfl⟩
  refine app1 (ca2 (xnil (xset (h:=xnil (xset (h:=?_))))))
  exact xindex_back b q' d l xm0 (xret rfl)
theorem idrop_spec (p:Option Addr) (m:DM) (nm:ByteArray):Ct Pr F_index_drop [.pointer p,.string nm] .one [.int .i64] [DevObj p m] emp (fun t Bs=>t.1=(dropM m nm).2∧Bs=[DevObj p (dropM m nm).1]):=by
  refine spec1 c_index_drop fun B _=>?_
  unfold index_drop
  refine xcl (Remove_spec p m nm) rdb ?_
  rintro ⟨t,_⟩ _ ⟨ht,rfl⟩
  simp only at ht;subst ht
  unfold dropM
  refine app1 (ca1 (xif (fun h=>?_) (fun h=>?_)))
  · have h:¬ (removeM m nm).2=6:=by simpa using h
    rw [if_neg h];exact xret ⟨rfl,rfl⟩
  · have h:(removeM m nm).2=6:=by simpa using h
    rw [if_pos h];exact xret ⟨rfl,rfl⟩
theorem LInv.lo {l:LM}(h:LInv l):0≤l.lo∧l.lo≤4000000000000:=by
  unfold LM.lo
  cases e:l.segs with
  | nil=>have:=h.first;simp only;omega
  | cons s r=>have:=(h.segs s (by rw [e];simp)).2.1;simp only;omega
theorem getL_len {l:LM}(hi:LInv l) (n:Int):(getL l n).1.length≤1024:=by
  unfold getL
  split
  · simp
  · split
    · rename_i s hs
      have hm:=(hi.segs s (List.mem_of_find?_eq_some hs)).2.2.2.2
      cases e:s.ps[(n - s.first).toNat]? with
      | none=>simp
      | some p=>exact hm p (List.mem_of_getElem? e)
    · simp
theorem xgot {s:Sl}{xs:List UInt8}{F:List HP}{K:Int→Int→ByteArray→Int→Int→Int→WP}(hl:xs.length≤1000000) (h:Ent B (Ar U8 s xs::F) (K (getM xs).1.kind (getM xs).1.time (getM xs).1.tag (getM xs).1.val (getM xs).1.id (getM xs).2)) :
    Ent B (Ar U8 s xs::F) (XCall Pr F_record_Get [s.v] (.tup [some 5,none]) [.int .i64,.int .i64,.str,.int .i64,.int .i64,.int .i64] K):=by
  refine xlen (E:=U8) (xs:=xs) s fun _ hc=>?_
  refine xcall0 (Get_rec s xs hc (by omega)) rdb ?_
  rintro ⟨k,t,g,v,i,e,_⟩ _ ⟨h1,h2,h3,h4,h5,h6,rfl⟩
  simp only at h1 h2 h3 h4 h5 h6
  subst h1 h2 h3 h4 h5 h6
  exact h
abbrev idxNew:ByteArray:=⟨#[105,100,120,46,110,101,119]⟩
theorem iOpen_spec (d l:Option Addr) (m:DM) (lm:LM):Ct Pr F_index_Open [.pointer d,.pointer l] (.tup [none,none]) [.ptr,.int .i64] [DevObj d m,LogObj l d lm] emp
    (fun t Bs=>t.2.1=(dropM m idxNew).2∧((dropM m idxNew).2≠0→t.1=none∧Bs=[DevObj d (dropM m idxNew).1,LogObj l d lm]) ∧
      ((dropM m idxNew).2=0→t.1≠none∧Bs=[DevObj d (dropM m idxNew).1,LogObj l d lm,IdxObj t.1 d l (openX lm)])):=by
  refine spec2 c_index_Open fun B _=>?_
  unfold index_Open
  refine xcl (idrop_spec d m idxNew) rdb ?_
  rintro ⟨e,_⟩ _ ⟨he,rfl⟩
  simp only at he;subst he
  refine app1 (ca1 (xif (fun h=>?_) (fun h=>?_)))
  · have h':(dropM m idxNew).2≠0:=by simpa using h
    exact xret ⟨rfl,fun _=>⟨rfl,rfl⟩,fun e=>absurd e h'⟩
  have h':(dropM m idxNew).2=0:=by simpa using h
  refine xnew fun b=>?_
  refine xcl (clear_spec b d l none 0) rdb ?_
  rintro _ _ rfl
  refine app1 (ca0 ?_)
  refine xcl (sFirst_spec l d lm) rdb ?_
  rintro ⟨t,_⟩ _ ⟨ht,rfl⟩
  simp only at ht;subst ht
  refine app1 (ca1 ?_)
  refine xfact 0 (P1:=LogObj l d lm) (fun g hg=>hg.1) fun hi=>?_
  have hnx:=hi.next
  refine xuse [DevObj d (dropM m idxNew).1,LogObj l d lm,IdxObj (some ⟨b,0,none⟩) d l xm0] ?_
  have hlo:=hi.lo
  refine xloop1 (fun n (x:Int) As'=>∃ k:Nat,x=lm.lo+k∧n=(lm.next - lm.lo).toNat - k∧k≤(lm.next - lm.lo).toNat∧As'=[DevObj d (dropM m idxNew).1,LogObj l d lm,IdxObj (some ⟨b,0,none⟩) d l (openTo lm k)]) (lm.next - lm.lo).toNat ⟨0,by simp,rfl,by omega,rfl⟩ ?_
  rintro n x As' K ⟨k,rfl,rfl,hk,rfl⟩ hK
  refine xcl (sNext_spec l d lm) rdb ?_
  rintro ⟨t,_⟩ _ ⟨ht,rfl⟩
  simp only at ht;subst ht
  refine app1 (ca1 (xif_dec (fun h1=>?_) (fun h1=>?_)))
  · refine xcl (sGet_spec l d lm (lm.lo+k) ⟨by omega,by omega⟩) rdb ?_
    rintro ⟨s,e,_⟩ _ ⟨_,rfl⟩
    refine app2 (ca2 (xfront 1 (xgot (by have:=getL_len hi (lm.lo+k);omega) (xnew fun b1=>?_))))
    iterate 5 (refine xset (h:=?_))
    refine xjoin0 (fun As'=>As'=[DevObj d (dropM m idxNew).1,LogObj l d lm,IdxObj (some ⟨b,0,none⟩) d l (openTo lm (k+1))]) (fun K1 hK1=>?_) ?_
    · rw [openTo_succ] at hK1
      refine xif (fun h2=>?_) (fun h2=>?_)
      · have e0:stepX lm (openTo lm k) (lm.lo+k)=putX (openTo lm k) (getM (getL lm (lm.lo+k)).1).1.time (lm.lo+k):=by unfold stepX;rw [if_pos (eq_of_beq h2)]
        rw [e0] at hK1
        refine xget (h:=?_)
        have hlen:=openTo_len lm k
        refine xcl (putX_spec (some ⟨b,0,none⟩) d l (openTo lm k) _ _ (by omega)) rdb ?_
        rintro _ _ rfl
        exact app1 (ca0 (xuse' (hK1 _ rfl)))
      · have e0:stepX lm (openTo lm k) (lm.lo+k)=openTo lm k:=by unfold stepX;rw [if_neg (by simpa using h2)]
        rw [e0] at hK1
        exact xuse' (hK1 _ rfl)
    · rintro _ rfl
      rw [wrap_id _ (by omega) (by omega)]
      exact hK ((lm.next - lm.lo).toNat - (k+1)) _ _ (by omega) ⟨k+1,by omega,rfl,by omega,rfl⟩
  · have e:k=(lm.next - lm.lo).toNat:=by omega
    refine xuse [DevObj d (dropM m idxNew).1,LogObj l d lm,IdxObj (some ⟨b,0,none⟩) d l (openTo lm k)] (xret ⟨h'.symm,fun e=>absurd h' e,fun _=>⟨by simp,?_⟩⟩)
    rw [e];rfl
def selK (floor:Int) (d:List KY):List Int:=(d.filter fun k=>decide (k.2≥floor)).map (·.2)
theorem selK_snoc (floor:Int) (d:List KY) (k:KY):selK floor (d++[k])=if k.2≥floor then selK floor d++[k.2] else selK floor d:=by
  unfold selK
  rw [List.filter_append,List.map_append]
  by_cases h:k.2≥floor
  · rw [if_pos h,List.filter_cons_of_pos (by simpa using h)];rfl
  · rw [if_neg h,List.filter_cons_of_neg (by simpa using h)];simp
def rngX (m:XM) (a b floor:Int):List Int:=selK floor (rngK (a,0) (b,0) m.L)
theorem iRange_spec (x d l:Option Addr) (m:XM) (a b floor:Int) (hL:m.L.length≤4000000000000):Ct Pr F_index_Index_Range [.pointer x,.int .i64 a,.int .i64 b,.int .i64 floor] .one [.slice] [IdxObj x d l m] emp
    (fun t Bs=>Bs=[IdxObj x d l m,Ar I64 t.1 (rngX m a b floor)]):=by
  refine spec1 c_index_Index_Range fun B _=>?_
  unfold index_Index_Range
  refine xnew fun b2=>xnew fun b3=>xindex 2 fun xb q hx=>?_
  subst hx
  refine xnil (xget (h:=?_))
  refine xcall0 (Range_tree (to:=(b,0)) q (a,0)) rdb ?_
  rintro ⟨v,_⟩ _ ⟨fb,tb,qb,hv,rfl⟩
  simp only at hv;subst hv
  refine app3 (ca1 (xrfv hb_range (xrf fun lp D rec hr hn hct=>?_)))
  show Ent B _ (XCall Pr F_tree_Tree_Range_1 [yieldV lp,pv fb,pv tb,pv qb] (.tup []) [] _)
  let St:List KY→HP:=fun d h=>∃ s:Sl,star [Blk b3 [s.v],Blk b2 [.int .i64 floor],Ar I64 s (selK floor d)] h
  have hopen:∀ (d:List KY) g,St d g→∃ Bs,(∃ s:Sl,Bs=[Blk b3 [s.v],Blk b2 [.int .i64 floor],Ar I64 s (selK floor d)])∧star Bs g:=fun d g ⟨s,hs⟩=>⟨_,⟨s,rfl⟩,hs⟩
  have hN:(rngK (a,0) (b,0) m.L).length≤m.L.length:=List.length_filter_le _ _
  have hY:YOk lp rec (rngK (a,0) (b,0) m.L).length St:=by
    intro d k v hd
    refine hct _ [St d] emp (fun Cs=>Cs=[St (d++[k])]) rfl fun B' _=>?_
    rw [t_index_Index_Range_rb]
    refine xnew fun c=>xset (h:=xset (h:=?_))
    refine xbusy 1 hr (xget (h:=?_))
    refine xopen 2 (P1:=St d) _ (hopen d) ?_
    rintro _ ⟨s,rfl⟩
    refine app3 (xget (h:=?_))
    refine xjoin0 (fun As'=>∃ s:Sl,As'=[LoopP lp { rec with state:=.busy },Blk b3 [s.v],Blk b2 [.int .i64 floor],Ar I64 s (selK floor (d++[k]))]) (fun K1 hK1=>?_) ?_
    · rw [selK_snoc] at hK1
      refine xif_dec (fun h=>?_) (fun h=>?_)
      · rw [if_pos h] at hK1
        refine xget (h:=xget (h:=xnew fun b1=>?_))
        have hsl:(selK floor d).length≤d.length:=by
          unfold selK;rw [List.length_map];exact List.length_filter_le _ _
        refine xapp1 (E:=I64) k.2 (hb:=by omega) (h:=fun s'=>xset (h:=?_))
        exact xuse' (hK1 _ ⟨s',rfl⟩)
      · rw [if_neg h] at hK1
        exact xuse' (hK1 _ ⟨s,rfl⟩)
    · rintro _ ⟨s,rfl⟩
      refine xready 0 hr hn ?_
      refine xfold [Blk b3 [s.v],Blk b2 [.int .i64 floor],Ar I64 s (selK floor (d++[k]))] (St (d++[k])) (fun g hg=>⟨s,hg⟩) ?_
      exact xuse [LoopP lp rec,St (d++[k])] fun w hw=>⟨_,rfl,hw⟩
  refine xnone I64 ?_
  refine xfold [Blk b3 [.slice none 0 0],Blk b2 [.int .i64 floor],Ar I64 ⟨none,0,0⟩ []] (St []) (fun g hg=>⟨⟨none,0,0⟩,hg⟩) ?_
  refine xcl (range1_spec lp rec _ St hY fb tb qb (a,0) (b,0) q m.L [] (by simp)) rdb ?_
  rintro _ _ rfl
  refine app6 (ca0 (xendloop 0 hr hn ?_))
  refine xopen 0 (P1:=St ([]++rngK (a,0) (b,0) m.L)) _ (hopen _) ?_
  rintro _ ⟨s,rfl⟩
  refine app3 (xget (h:=?_))
  refine xfront (P:=DefP D) 7 ?_
  refine xtake 0 ?_
  refine xindex_back xb q d l m ?_
  exact xuse [IdxObj (some ⟨xb,0,none⟩) d l m,Ar I64 s (selK floor ([]++rngK (a,0) (b,0) m.L))] (xret rfl)
end Go.Cx
namespace Go.Cx
open Go Go.Cf
set_option linter.unusedVariables false
set_option maxRecDepth 100000
theorem finM_ok {r:RE}{rest:List UInt8}{sh:Bool}(h:(finM r rest sh).2=0):(finM r rest sh).1=r∧checkR r=0:=by
  unfold finM at h ⊢
  split at h
  · cases h
  · rename_i h1
    rw [if_neg h1]
    split at h
    · cases h
    · rename_i h2
      rw [if_neg h2]
      split at h
      · rename_i h3;exact absurd h h3
      · rename_i h3
        rw [if_neg h3]
        exact ⟨rfl,by simpa using h3⟩
theorem getM_check {bs:List UInt8}(h:(getM bs).2=0):checkR (getM bs).1=0:=by
  have fm:∀ {r:RE}{rest:List UInt8}{sh:Bool},(finM r rest sh).2=0→checkR (finM r rest sh).1=0:=fun h=>by
    obtain ⟨h1,h2⟩:=finM_ok h;rw [h1];exact h2
  cases bs with
  | nil=>cases h
  | cons k rest=>
    cases hw:withinB (k.toNat:Int) 1 6 with
    | false=>rw [getM_bad hw] at h;cases h
    | true=>
      rw [getM_ok hw] at h ⊢
      generalize numM rest false=a at *
      unfold getK at h ⊢
      split at h
      · rename_i h1
        rw [if_pos h1]
        unfold tagged at h ⊢
        cases he:a.2.1 with
        | nil=>rw [he] at h;cases h
        | cons n r2=>
          rw [he] at h
          simp only at h ⊢
          split at h
          · cases h
          · rename_i h2
            rw [if_neg h2];exact fm h
      · rename_i h1
        rw [if_neg h1]
        split at h
        · rename_i h2;rw [if_pos h2];exact fm h
        · rename_i h2
          rw [if_neg h2]
          split at h
          · rename_i h3;rw [if_pos h3];exact fm h
          · rename_i h3;rw [if_neg h3];exact fm h
end Go.Cx
namespace Go.Cx
open Go Go.Cf
set_option linter.unusedVariables false
set_option maxRecDepth 100000
variable {B:Base}{As F:List HP}
theorem drop_up {m:DM}(nm:ByteArray) (hd:m.down=false) (ha:m.armed=false):(dropM m nm).2=0:=by
  have hs:spendM m=(m,true):=by unfold spendM;rw [ha];rfl
  have h1:(removeM m nm).2=0∨(removeM m nm).2=6:=by
    unfold removeM onFile spent
    dsimp only
    rw [hs,if_neg (by rw [hd];simp)]
    cases thereL m.fs nm.toList
    · right;rfl
    · left;rfl
  unfold dropM
  rcases h1 with h1 | h1
  · rw [if_neg (by rw [h1];decide)];exact h1
  · rw [if_pos h1]
def RowsAt (s:Sl) (rs:List Sl) (bss:List (List UInt8)):HP:=fun h=>RAr SL s rs h∧rs.length=bss.length∧∀ (i:Nat) (r:Sl) (bs:List UInt8),rs[i]? = some r→bss[i]? = some bs→RAr U8 r bs h
abbrev k20:DM:=⟨false,false,0,1048576,[]⟩
def fillM (x:DM×LM) (ps:List (List UInt8)):DM×LM:=ps.foldl (fun x p=>((appendL x.1 x.2 p).1,(appendL x.1 x.2 p).2.1)) x
abbrev fill0 (ps:List (List UInt8)):DM×LM:=fillM (k20,logOf [] 0) ps
theorem k20_inv:DInv k20:=⟨List.Pairwise.nil,fun f hf=>by simp at hf,fun f hf=>by simp at hf,by simp [usedN],by decide,by simp,⟨⟨by simp,by simp⟩,fun h=>by cases h⟩⟩
theorem fill_snoc (x:DM×LM) (ps:List (List UInt8)) (p:List UInt8):fillM x (ps++[p])=((appendL (fillM x ps).1 (fillM x ps).2 p).1,(appendL (fillM x ps).1 (fillM x ps).2 p).2.1):=by
  unfold fillM;rw [List.foldl_append];rfl
theorem fill_relN:∀ (n:Nat) (ps:List (List UInt8)),ps.length=n→n≤100000→∃ (gs:List (List (List UInt8))) (safe:Nat),(fill0 ps).2=logOf gs safe∧Rel (fill0 ps).1 gs safe∧gs.flatten.length≤ps.length∧(fill0 ps).1.armed=false∧(fill0 ps).1.down=false:=by
  intro n
  induction n with
  | zero=>
    intro ps h0 _
    obtain rfl:=List.eq_nil_of_length_eq_zero h0
    exact ⟨[],0,rfl,rel_empty k20_inv rfl,by simp,rfl,rfl⟩
  | succ n ih=>
    intro ps0 h0 hl
    rcases List.eq_nil_or_concat ps0 with rfl | ⟨ps,p,rfl⟩
    · simp at h0
    rw [List.concat_eq_append] at h0 ⊢
    rw [List.length_append,List.length_singleton] at h0
    obtain ⟨gs,safe,e1,e2,e3,e4,e5⟩:=ih ps (by omega) (by omega)
    obtain ⟨gs',safe',s1,s2,s3,s4,s5,s6⟩:=e2.step p (by omega)
    rw [←e1] at s1 s2 s5
    have e7:fill0 (ps++[p])=((appendL (fill0 ps).1 (fill0 ps).2 p).1,(appendL (fill0 ps).1 (fill0 ps).2 p).2.1):=fill_snoc _ ps p
    rw [e7]
    refine ⟨gs',safe',s1,s2,?_,s5 e4 e5⟩
    rw [List.length_append,List.length_singleton]
    rcases s6 with ⟨_,_,e⟩ | ⟨_,_,e⟩<;>rw [e]
    · rw [List.length_append,List.length_singleton];omega
    · omega
theorem fill_rel (ps:List (List UInt8)) (h:ps.length≤100000):∃ (gs:List (List (List UInt8))) (safe:Nat),(fill0 ps).2=logOf gs safe∧Rel (fill0 ps).1 gs safe∧gs.flatten.length≤ps.length∧(fill0 ps).1.armed=false∧(fill0 ps).1.down=false:=fill_relN _ ps rfl h
end Go.Cx
