/-
  The document's log in segments: its looks.
  The document's log in segments: what it holds; the next number; Sync; Get.
  The document's log in segments: Get.
  The document's log in segments: Append.
  The document's log in segments, opened over a new device.
  The document's log in segments: Trim.
-/
import Derived.Test.YtifochbabgjhpaaGreatDoorRD
import Derived.Test.YtifochbabgjhpaaGreatDoorS1
import Derived.Test.YtifochbabgjhpaaGreatDoorR1
import Derived.Test.YtifochbabgjhpaaGreatDoorTX
namespace Go.Cx
open Go Go.Cf
set_option linter.unusedVariables false
set_option maxRecDepth 100000
variable {B:Base}{As F:List HP}{α:Type}
theorem dec_step (u:Nat) (h:10≤u):Lib.decDigits u=Lib.decDigits (u / 10)++[UInt8.ofNat (48+u % 10)]:=by
  rw [Lib.decDigits,dif_neg (by omega)]
theorem dec_one (u:Nat) (h:u<10):Lib.decDigits u=[UInt8.ofNat (48+u)]:=by
  rw [Lib.decDigits,dif_pos h]
def restD (m:Nat):List UInt8:=if m=0 then [] else Lib.decDigits m
theorem rest_step (m:Nat) (h:0<m):restD m=restD (m / 10)++[UInt8.ofNat (48+m % 10)]:=by
  unfold restD
  rw [if_neg (by omega)]
  by_cases h1:m<10
  · rw [if_pos (by omega),dec_one m h1,Nat.mod_eq_of_lt h1];rfl
  · rw [if_neg (by omega),dec_step m (by omega)]
theorem rest_len (m:Nat) (h:m≤4398046511104):(restD m).length≤21:=by
  unfold restD
  split
  · simp
  · have:=itoa_len (n:=(m:Int)) (by omega) (by omega)
    unfold Lib.itoa at this
    rw [if_neg (by omega),Int.toNat_natCast] at this
    exact this
theorem digit_u8 (m:Nat):IntKind.u8.wrap (IntKind.i64.wrap (48+(m:Int).tmod 10))=((UInt8.ofNat (48+m % 10)).toNat:Int):=by
  have h1:(m:Int).tmod 10=((m % 10:Nat):Int):=by rw [Int.tmod_eq_emod_of_nonneg (by omega)];omega
  rw [h1,wrap_id _ (by omega) (by omega)]
  have h2:(UInt8.ofNat (48+m % 10)).toNat=48+m % 10:=by
    rw [UInt8.toNat_ofNat'];exact Nat.mod_eq_of_lt (by omega)
  rw [h2]
  have e1:(2 ^ IntKind.u8.bits:Int)=256:=by decide
  have e3:IntKind.u8.signed=false:=rfl
  simp only [IntKind.wrap,e1,e3,Bool.false_and]
  simp;omega
theorem rDigits_spec (n:Int) (h0:1≤n) (h1:n≤4398046511104):Ct Pr F_ref14_Digits [.int .i64 n] .one [.str] [] emp (fun t Bs=>t.1=BA (Lib.itoa n)∧Bs=[]):=by
  refine spec1 c_ref14_Digits fun B _=>?_
  obtain ⟨N,rfl⟩:=Int.eq_ofNat_of_zero_le (by omega:0≤n)
  have hN:restD N=Lib.itoa (N:Int):=by
    unfold restD Lib.itoa
    rw [if_neg (by omega),if_neg (by omega),Int.toNat_natCast]
  rw [←hN]
  unfold ref14_Digits
  refine xloop2 (fun n (s:ByteArray) (x:Int) As'=>∃ (m:Nat) (tl:List UInt8),x=(m:Int)∧m=n∧m≤4398046511104∧s=BA tl∧restD N=restD m++tl∧tl.length≤21∧As'=[]) N ⟨N,[],rfl,rfl,by omega,rfl,by simp,by simp,rfl⟩ ?_
  rintro n _ _ _ K ⟨m,tl,rfl,rfl,hm,rfl,hr,htl,rfl⟩ hK
  refine xif_dec (fun h=>?_) (fun h=>?_)
  · have hst:=rest_step m (by omega)
    rw [hst,List.append_assoc] at hr
    have hl:=rest_len N (by omega)
    refine xasrt (by decide) (xnew fun b=>?_)
    rw [digit_u8]
    refine xfold1 0 (Q:=Ar U8 ⟨some ⟨b,0,none⟩,1,1⟩ [UInt8.ofNat (48+m % 10)]) (fun g hg=>⟨[],blk_ar [UInt8.ofNat (48+m % 10)] 1 rfl rfl hg⟩) ?_
    refine xstr (s:=⟨some ⟨b,0,none⟩,1,1⟩) (xs:=[UInt8.ofNat (48+m % 10)]) (e:=T_uint8) (by simp) (by kernel_rfl) (by kernel_rfl) (by kernel_rfl) ?_
    have htl2:(UInt8.ofNat (48+m % 10)::tl).length≤21:=by
      have:=congrArg List.length hr
      simp only [List.length_append,List.length_cons,List.length_nil] at this ⊢
      omega
    have hba:(⟨[UInt8.ofNat (48+m % 10)].toArray⟩:ByteArray)=BA [UInt8.ofNat (48+m % 10)]:=rfl
    rw [hba]
    refine xasrt ?_ (xasrt (by decide) ?_)
    · rw [BA_size,BA_size]
      simp only [List.length_cons,List.length_nil] at htl2 ⊢
      omega
    have hd:(m:Int).tdiv 10=((m / 10:Nat):Int):=by rw [Int.tdiv_eq_ediv_of_nonneg (by omega)];omega
    rw [hd,wrap_id _ (by omega) (by omega),BA_app]
    refine xuse [] (hK _ _ _ _ (by omega) ⟨m / 10,[UInt8.ofNat (48+m % 10)]++tl,rfl,rfl,by omega,rfl,hr,htl2,rfl⟩)
  · obtain rfl:m=0:=by omega
    exact xret ⟨by rw [hr];rfl,rfl⟩
theorem rName_spec (n:Int) (h0:1≤n) (h1:n≤4398046511104):Ct Pr F_ref14_Name [.int .i64 n] .one [.str] [] emp (fun t Bs=>t.1=fN n∧Bs=[]):=by
  refine spec1 c_ref14_Name fun B hr=>?_
  unfold ref14_Name
  refine xcall0 (rDigits_spec n h0 h1) rdb ?_
  rintro ⟨t,_⟩ _ ⟨ht,rfl⟩
  obtain rfl:t=BA (Lib.itoa n):=ht
  have hl:=itoa_len (n:=n) (by omega) (by omega)
  refine app0 (ca1 (xasrt ?_ (xret ⟨?_,rfl⟩)))
  · rw [BA_size,show (⟨#[108,111,103,45]⟩:ByteArray).size=4 from rfl];omega
  · rw [show (⟨#[108,111,103,45]⟩:ByteArray)=BA preL from rfl,BA_app];rfl
theorem xname {n:Int}{K:ByteArray→WP}(h0:1≤n) (h1:n≤4398046511104) (h:Ent B As (K (fN n))):Ent B As (XCall Pr F_ref14_Name [.int .i64 n] .one [.str] K):=by
  refine xcall0 (rName_spec n h0 h1) rdb ?_
  rintro ⟨t,_⟩ _ ⟨ht,rfl⟩
  obtain rfl:t=fN n:=ht
  exact app0 (ca1 h)
end Go.Cx
namespace Go.Cx
open Go Go.Cf
set_option linter.unusedVariables false
set_option maxRecDepth 100000
variable {B:Base}{As F:List HP}{α:Type}
abbrev CR:=Int×Int×Sl
def RSG:Enc CR:=⟨fun x=>[.int .i64 x.1,.int .i64 x.2.1,x.2.2.v],3,fun _=>rfl,fun x v h=>by simp at h;rcases h with rfl | rfl | rfl<;>rfl,by decide,(0,0,⟨none,0,0⟩)⟩
def RSegR (c:CR) (s:Sg):HP:=fun h=>c.1=s.n∧c.2.1=s.size∧ORows c.2.2 s.ps h
abbrev rlogCells (p:Option Addr) (n lo safe:Int) (s:Sl):List Value:=[.pointer p,.int .i64 n,.int .i64 lo,s.v,.int .i64 safe]
def RLogObj (q p:Option Addr) (l:LM):HP:=fun h=>LInv l∧∃ b n s cs,q=some ⟨b,0,none⟩∧(l.segs=[]→n=l.n)∧star [Blk b (rlogCells p n l.lo l.safe s),Ar RSG s cs,Each RSegR cs l.segs] h
structure RF (cs:List CR) (ss:List Sg):Prop where
  len:cs.length=ss.length
  each:∀ (i:Nat) (c:CR) (s:Sg),cs[i]? = some c→ss[i]? = some s→c.1=s.n∧c.2.1=s.size∧c.2.2.n=s.ps.length∧c.2.2.n≤c.2.2.c
theorem rf_of {cs:List CR}{ss:List Sg}{g:Frag}(h:Each RSegR cs ss g):RF cs ss:=
  ⟨h.length,fun i c s a b=>each_read (R:=RSegR) (S:=fun c s _=>c.1=s.n∧c.2.1=s.size∧c.2.2.n=s.ps.length∧c.2.2.n≤c.2.2.c) (fun _ _ _ _ h _=>h) (fun x y g ⟨h1,h2,h4⟩=>⟨h1,h2,orows_len h4⟩) h a b⟩
theorem xrlog (i:Nat) {q p:Option Addr}{l:LM}{F:List HP} [r:Pick i As (RLogObj q p l) F] {φ:WP}
    (k:LInv l→∀ b n s cs,q=some ⟨b,0,none⟩→(l.segs=[]→n=l.n)→RF cs l.segs→s.n=cs.length→Ent B (Blk b (rlogCells p n l.lo l.safe s)::Ar RSG s cs::Each RSegR cs l.segs::F) φ):Ent B As φ:=by
  refine Ent.perm r.perm ?_
  intro w hw
  obtain ⟨g,⟨a,c,⟨hi,b,n,s,cs,hp,hn,pa⟩,pc,d,sa,sc⟩,hm,hu⟩:=hw
  have hl:RF cs l.segs∧s.n=cs.length:=by
    obtain ⟨_,_,_,⟨_,_,⟨_,par⟩,⟨_,_,pe,_⟩,_⟩,_⟩:=pa
    exact ⟨rf_of pe,par.1.symm⟩
  exact k hi b n s cs hp hn hl.1 hl.2 w ⟨g,(star_append [_,_,_] F).2 ⟨a,c,pa,pc,d,sa,sc⟩,hm,hu⟩
theorem xrlog_back (b:Nat) (n:Int) (s:Sl) (cs:List CR) {p:Option Addr}{l:LM}{G:List HP} [q:Split [Blk b (rlogCells p n l.lo l.safe s),Ar RSG s cs,Each RSegR cs l.segs] As G] {φ:WP}
    (hi:LInv l) (hn:l.segs=[]→n=l.n) (k:Ent B (RLogObj (some ⟨b,0,none⟩) p l::G) φ):Ent B As φ:=
  xfold [Blk b (rlogCells p n l.lo l.safe s),Ar RSG s cs,Each RSegR cs l.segs] (RLogObj (some ⟨b,0,none⟩) p l) (fun g hg=>⟨hi,b,n,s,cs,rfl,hn,hg⟩) k
def cumL:List Sg→Nat
  | []=>0
  | s::ss=>s.ps.length+cumL ss
theorem cumL_app:∀ a b:List Sg,cumL (a++b)=cumL a+cumL b
  | [],b=>by simp [cumL]
  | s::a,b=>by simp only [List.cons_append,cumL,cumL_app a b];omega
theorem cumL_succ {ss:List Sg}{k:Nat}{s:Sg}(h:ss[k]? = some s):cumL (ss.take (k+1))=cumL (ss.take k)+s.ps.length:=by
  rw [List.take_add_one,h,cumL_app];simp [cumL]
theorem at_first {l:LM}(hi:LInv l):∀ (k:Nat) (s:Sg),l.segs[k]? = some s→s.first=l.lo+(cumL (l.segs.take k):Int)
  | 0,s,h=>by
    have:l.lo=s.first:=by
      unfold LM.lo
      cases e:l.segs with
      | nil=>rw [e] at h;simp at h
      | cons y r => rw [e] at h; obtain rfl : y = s := by simpa using h
                    rfl
    simp [cumL,this]
  | k+1,s,h=>by
    obtain ⟨y,hy⟩:∃ y,l.segs[k]? = some y:=⟨_,List.getElem?_eq_getElem (by have:=(List.getElem?_eq_some_iff.1 h).1;omega)⟩
    have e:=hi.chain k y s hy h
    have:=at_first hi k y hy
    rw [cumL_succ hy,e]
    simp only [Sg.next];omega
theorem next_cum {l:LM}(hi:LInv l):l.next=l.lo+(cumL l.segs:Int):=by
  unfold LM.next LM.cur
  cases e:l.segs.getLast? with
  | none=>
    have:l.segs=[]:=List.getLast?_eq_none_iff.1 e
    unfold LM.lo
    rw [this];simp [cumL]
  | some s=>
    have h1:=getLast_get e
    have h2:=at_first hi _ _ h1
    have h3:=cumL_succ h1
    have h4:=(List.getElem?_eq_some_iff.1 h1).1
    rw [show l.segs.length - 1+1=l.segs.length by omega,List.take_length] at h3
    simp only [Sg.next];omega
theorem cum_lt {l:LM}(hi:LInv l) {k:Nat}(hk:k≤l.segs.length):0≤l.lo+(cumL (l.segs.take k):Int)∧l.lo+(cumL (l.segs.take k):Int)≤4398046511104:=by
  by_cases h:k<l.segs.length
  · have hg:=List.getElem?_eq_getElem h
    have:=at_first hi k _ hg
    obtain ⟨_,h2,_⟩:=hi.segs _ (List.getElem_mem h)
    omega
  · rw [List.take_of_length_le (by omega),←next_cum hi]
    have:=hi.next
    omega
theorem rNext_raw (b:Nat) (p:Option Addr) (n:Int) (l:LM) (s:Sl) (cs:List CR) (hs:s.n=cs.length) (hf:RF cs l.segs) (hi:LInv l):Ct Pr F_ref14_Log_Next [.pointer (some ⟨b,0,none⟩)] .one [.int .i64] [Blk b (rlogCells p n l.lo l.safe s),Ar RSG s cs] emp
    (fun t Bs=>t.1=l.next∧Bs=[Blk b (rlogCells p n l.lo l.safe s),Ar RSG s cs]):=by
  refine spec1 c_ref14_Log_Next fun B _=>?_
  unfold ref14_Log_Next
  have hlen:=hf.len
  have hfew:=hi.few
  refine xnil (xget (h:=?_))
  refine xloop2 (fun m (n1:Int) (i:Int) As'=>∃ k:Nat,i=(k:Int)∧m=cs.length - k∧k≤cs.length∧n1=l.lo+(cumL (l.segs.take k):Int)∧As'=[Blk b (rlogCells p n l.lo l.safe s),Ar RSG s cs]) cs.length ⟨0,rfl,rfl,by omega,by simp [cumL],rfl⟩ ?_
  rintro m _ _ _ K ⟨k,rfl,rfl,hk,rfl,rfl⟩ hK
  refine xnil (xget (h:=xif_dec (fun h=>?_) (fun h=>?_)))
  · have hlt:k<cs.length:=by omega
    obtain ⟨c,hc⟩:∃ c,cs[k]? = some c:=⟨_,List.getElem?_eq_getElem hlt⟩
    obtain ⟨sg,hsg⟩:∃ sg,l.segs[k]? = some sg:=⟨_,List.getElem?_eq_getElem (by omega)⟩
    obtain ⟨g1,g2,g3,g4⟩:=hf.each k c sg hc hsg
    have hb1:=cum_lt hi (k:=k) (by omega)
    have hb2:=cum_lt hi (k:=k+1) (by omega)
    have hcs:=cumL_succ hsg
    refine xnil (xget (h:=?_))
    refine xidxn (E:=RSG) (xs:=cs) (s:=s) (h1:=hlt) (h:=fun _ _=>?_)
    refine xgetEj (E:=RSG) (xs:=cs) hc (h:=?_)
    rw [wrap_succ k (by omega),wrap_id _ (by omega) (by omega)]
    exact hK _ _ _ _ (by omega) ⟨k+1,rfl,rfl,by omega,by omega,rfl⟩
  · refine xret ⟨?_,rfl⟩
    rw [List.take_of_length_le (by omega),←next_cum hi]
theorem xoff (i:Nat) {q:Option Addr}{m:DM}{F:List HP} [r:Pick i As (RefDev q m) F] {K:Bool→WP}(h:Ent B (RefDev q m::F) (K m.down)):Ent B As (XNil q fun a=>XGet .bool (a.add 2) fun(c:Bool)=>K c):=by
  refine xrdev i fun hi b s cs hp sf hn=>?_
  subst hp
  refine xnil (xget (h:=?_))
  exact xrdev_back b s cs hi h
theorem rf_last {cs:List CR}{ss:List Sg}(h:RF cs ss) {s:Sg}(hs:ss.getLast? = some s):∃ c,cs[cs.length - 1]? = some c∧c.1=s.n∧c.2.1=s.size∧c.2.2.n=s.ps.length∧c.2.2.n≤c.2.2.c:=by
  have h1:=getLast_get hs
  have hlt:=(List.getElem?_eq_some_iff.1 h1).1
  have hc:=List.getElem?_eq_getElem (l:=cs) (i:=cs.length - 1) (by rw [h.len];exact hlt)
  exact ⟨_,hc,h.each _ _ _ hc (by rw [h.len];exact h1)⟩
theorem rSync14_spec (q p:Option Addr) (m:DM) (l:LM) (hn0:l.segs=[]→l.safe=l.next):Ct Pr F_ref14_Log_Sync [.pointer q] .one [.int .i64] [RLogObj q p l,RefDev p m] emp
    (fun t Bs=>t.1=(if (syncL m l).2.2=0 then 0 else 10)∧Bs=[RLogObj q p (syncL m l).2.1,RefDev p (syncL m l).1]):=by
  refine spec1 c_ref14_Log_Sync fun B _=>?_
  unfold ref14_Log_Sync
  refine xrlog 0 fun hi b n s cs hq hn hf hs=>?_
  subst hq
  refine xnil (xget (h:=?_))
  refine xoff 3 ?_
  refine xif (fun h=>?_) (fun h=>?_)
  · have e:syncL m l=(m,l,10):=by unfold syncL;rw [if_pos h]
    rw [e]
    refine xrlog_back (p:=p) (l:=l) b n s cs hi hn ?_
    exact xuse [RLogObj (some ⟨b,0,none⟩) p l,RefDev p m] (xret ⟨rfl,rfl⟩)
  refine xdraw (xnil (xget (h:=?_)))
  refine xcl (rNext_raw b p n l s cs hs hf hi) rdb ?_
  rintro ⟨t,_⟩ _ ⟨ht,rfl⟩
  simp only at ht;subst ht
  refine app2 (ca1 (xchk (h:=xif (fun h1=>?_) (fun h1=>?_))))
  · have h1:l.safe=l.next:=by simpa using h1
    have e:syncL m l=(m,l,0):=by unfold syncL;rw [if_neg (by rw [h];decide),if_pos h1]
    rw [e]
    refine xrlog_back (p:=p) (l:=l) b n s cs hi hn ?_
    exact xuse [RLogObj (some ⟨b,0,none⟩) p l,RefDev p m] (xret ⟨rfl,rfl⟩)
  have h1:¬ l.safe=l.next:=by simpa using h1
  have hne:l.segs≠[]:=fun e=>h1 (hn0 e)
  obtain ⟨sg,hc⟩:∃ sg,l.segs.getLast? = some sg:=⟨_,List.getLast?_eq_some_getLast hne⟩
  obtain ⟨c,g1,g2,g3,g4,g5⟩:=rf_last hf hc
  obtain ⟨k1,k2,k3,k4,_⟩:=hi.segs sg (List.mem_of_getLast? hc)
  have hlen:=hf.len
  have hfew:=hi.few
  have hpos:0<l.segs.length:=List.length_pos_iff.2 hne
  refine xdraw (xnil (xget (h:=xnil (xget (h:=xnil (xget (h:=?_)))))))
  rw [wrap_id _ (by omega) (by omega),show (s.n:Int) - 1=((cs.length - 1:Nat):Int) by omega]
  refine xidxn (E:=RSG) (xs:=cs) (s:=s) (h1:=by omega) (h:=fun _ _=>?_)
  refine xgetE (E:=RSG) (xs:=cs) g1 (h:=?_)
  rw [g2]
  refine xname (by omega) (by omega) (xchk (h:=?_))
  refine xcl (rSync_spec p m (fN sg.n)) rdb ?_
  rintro ⟨t,_⟩ _ ⟨ht,rfl⟩
  simp only at ht;subst ht
  have e:syncL m l=if (syncM m (fN sg.n)).2≠0 then ((syncM m (fN sg.n)).1,l,(syncM m (fN sg.n)).2) else ((syncM m (fN sg.n)).1,{ l with safe:=l.next },0):=by
    unfold syncL LM.cur;rw [if_neg (by rw [h];decide),if_neg h1,hc];rfl
  rw [e]
  refine app1 (ca1 (xif (fun h2=>?_) (fun h2=>?_)))
  · have h2:(syncM m (fN sg.n)).2≠0:=by simpa using h2
    rw [if_pos h2]
    refine xrlog_back (p:=p) (l:=l) b n s cs hi hn ?_
    exact xuse [RLogObj (some ⟨b,0,none⟩) p l,RefDev p (syncM m (fN sg.n)).1] (xret ⟨by simp only;rw [if_neg h2],rfl⟩)
  · have h2:¬ (syncM m (fN sg.n)).2≠0:=by simpa using h2
    rw [if_neg h2]
    refine xcl (rNext_raw b p n l s cs hs hf hi) rdb ?_
    rintro ⟨t,_⟩ _ ⟨ht,rfl⟩
    simp only at ht;subst ht
    refine app2 (ca1 (xnil (xset (h:=?_))))
    have hb:=hi.next
    refine xfold [Blk b (rlogCells p n l.lo l.next s),Ar RSG s cs,Each RSegR cs l.segs] (RLogObj (some ⟨b,0,none⟩) p { l with safe:=l.next }) (fun g hg=>⟨⟨hi.n,hi.first,hi.segs,hi.few,by simp only;omega,hi.chain⟩,b,n,s,cs,rfl,hn,hg⟩) ?_
    exact xuse [RLogObj (some ⟨b,0,none⟩) p { l with safe:=l.next },RefDev p (syncM m (fN sg.n)).1] (xret ⟨rfl,rfl⟩)
end Go.Cx
namespace Go.Cx
open Go Go.Cf
set_option linter.unusedVariables false
set_option maxRecDepth 100000
variable {B:Base}{As F:List HP}{α:Type}
theorem reach_self {R:CR→Sg→HP}{cs:List CR}{ss:List Sg}{k:Nat}{c:CR}{s:Sg}(hc:cs[k]? = some c) (hs:ss[k]? = some s) {g:Frag}(h:star [R c s,Each R (cs.eraseIdx k) (ss.eraseIdx k)] g):Each R cs ss g:=by
  have h1:=(List.getElem?_eq_some_iff.1 hc).1
  have h2:=(List.getElem?_eq_some_iff.1 hs).1
  have:=each_put h1 h2 h
  have e1:cs.set k c=cs:=by
    apply List.ext_getElem?
    intro j
    by_cases e:k=j
    · subst e;rw [List.getElem?_set_self h1,hc]
    · rw [List.getElem?_set_ne e]
  have e2:ss.set k s=ss:=by
    apply List.ext_getElem?
    intro j
    by_cases e:k=j
    · subst e;rw [List.getElem?_set_self h2,hs]
    · rw [List.getElem?_set_ne e]
  rw [e1,e2] at this
  exact this
theorem xrseg {cs:List CR}{ss:List Sg}{k:Nat}{c:CR}{s:Sg}{F:List HP}{φ:WP}(i:Nat) [q:Pick i As (Each RSegR cs ss) F] (hc:cs[k]? = some c) (hs:ss[k]? = some s)
    (h:∀ rs,Ent B (Ar SL c.2.2 rs::Each (Ar U8) rs s.ps::Each RSegR (cs.eraseIdx k) (ss.eraseIdx k)::F) φ):Ent B As φ:=by
  refine xopen i (fun Bs=>∃ rs,Bs=[Ar SL c.2.2 rs,Each (Ar U8) rs s.ps,Each RSegR (cs.eraseIdx k) (ss.eraseIdx k)]) (fun g hg=>?_) ?_
  · have:=each_pick hg hc hs
    obtain ⟨a,b,⟨h1,h2,rs,pa⟩,pb,d,sa,sb⟩:=this
    exact ⟨_,⟨rs,rfl⟩,(star_append [_,_] [_]).2 ⟨a,b,pa,pb,d,sa,sb⟩⟩
  · rintro _ ⟨rs,rfl⟩
    exact h rs
theorem rseg_fold {rs:List Sl}{c:CR}{s:Sg}(h1:c.1=s.n) (h3:c.2.1=s.size) {l:List HP}{g:Frag}(h:star (Ar SL c.2.2 rs::Each (Ar U8) rs s.ps::l) g):star (RSegR c s::l) g:=by
  obtain ⟨a,b,pa,pb,d,sa,sb⟩:=(star_append [Ar SL c.2.2 rs,Each (Ar U8) rs s.ps] l).1 h
  exact ⟨a,b,⟨h1,h3,rs,pa⟩,pb,d,sa,sb⟩
theorem rGet14_spec (q p:Option Addr) (l:LM) (n:Int):Ct Pr F_ref14_Log_Get [.pointer q,.int .i64 n] (.tup [none,none]) [.slice,.int .i64] [RLogObj q p l] emp
    (fun t Bs=>t.2.1=(getL l n).2∧Bs=[RLogObj q p l,Ar U8 t.1 (getL l n).1]):=by
  refine spec2 c_ref14_Log_Get fun B _=>?_
  unfold ref14_Log_Get
  refine xrlog 0 fun hi b nn s cs hq hn hf hs=>?_
  subst hq
  have hlen:=hf.len
  have hfew:=hi.few
  refine xnil (xget (h:=xif_dec (fun h=>?_) (fun h=>?_)))
  · have e:getL l n=([],31):=by unfold getL;rw [if_pos h]
    rw [e]
    refine xrlog_back (p:=p) (l:=l) b nn s cs hi hn ?_
    exact xnone U8 (xuse [RLogObj (some ⟨b,0,none⟩) p l,Ar U8 ⟨none,0,0⟩ []] (xret ⟨rfl,rfl⟩))
  have hg:getL l n=match l.segs.find? fun s=>decide (n<s.next) with
      | some s=>((s.ps[(n - s.first).toNat]?).getD [],0)
      | none=>([],6):=by unfold getL;rw [if_neg h];rfl
  have hnc:=next_cum hi
  have hnx:=hi.next
  refine xcl (rNext_raw b p nn l s cs hs hf hi) rdb ?_
  rintro ⟨t,_⟩ _ ⟨ht,rfl⟩
  simp only at ht;subst ht
  refine app2 (ca1 (xif_dec (fun h1=>?_) (fun h1=>?_)))
  · have hfind:(l.segs.find? fun s=>decide (n<s.next))=none:=by
      rw [List.find?_eq_none]
      intro y hy
      obtain ⟨j,hj⟩:=List.mem_iff_getElem?.1 hy
      have e1:=at_first hi j y hj
      have e2:=cumL_succ hj
      have e3:cumL l.segs=cumL (l.segs.take (j+1))+cumL (l.segs.drop (j+1)):=by rw [←cumL_app,List.take_append_drop]
      have e4:¬ n<y.next:=by simp only [Sg.next];omega
      simpa using e4
    rw [hfind] at hg
    simp only at hg
    rw [hg]
    refine xrlog_back (p:=p) (l:=l) b nn s cs hi hn ?_
    exact xnone U8 (xuse [RLogObj (some ⟨b,0,none⟩) p l,Ar U8 ⟨none,0,0⟩ []] (xret ⟨rfl,rfl⟩))
  have hlo:=cum_lt hi (k:=0) (by omega)
  simp only [List.take_zero,cumL] at hlo
  refine xnil (xget (h:=?_))
  rw [wrap_id _ (by omega) (by omega)]
  refine xuse [Blk b (rlogCells p nn l.lo l.safe s),Ar RSG s cs,Each RSegR cs l.segs] ?_
  refine xloop2 (fun m (n3:Int) (i:Int) As'=>∃ k:Nat,i=(k:Int)∧m=cs.length - k∧k≤cs.length∧n3=n - l.lo - (cumL (l.segs.take k):Int)∧0≤n3∧(∀ j y,j<k→l.segs[j]? = some y→decide (n<y.next)=false)∧As'=[Blk b (rlogCells p nn l.lo l.safe s),Ar RSG s cs,Each RSegR cs l.segs]) cs.length ⟨0,rfl,rfl,by omega,by simp [cumL],by omega,fun j y hj _=>by omega,rfl⟩ ?_
  rintro m _ _ _ K ⟨k,rfl,rfl,hk,rfl,h0,hno,rfl⟩ hK
  have hlt:k<cs.length:=by
    rcases Nat.lt_or_ge k cs.length with h2 | h2
    · exact h2
    · rw [List.take_of_length_le (by omega)] at h0;omega
  obtain ⟨c,hc⟩:∃ c,cs[k]? = some c:=⟨_,List.getElem?_eq_getElem hlt⟩
  obtain ⟨sg,hsg⟩:∃ sg,l.segs[k]? = some sg:=⟨_,List.getElem?_eq_getElem (by omega)⟩
  obtain ⟨g1,g2,g3,g4⟩:=hf.each k c sg hc hsg
  obtain ⟨b1,b2,b3,b4,b5⟩:=hi.segs sg (List.mem_of_getElem? hsg)
  have hcs:=cumL_succ hsg
  have hfst:=at_first hi k sg hsg
  refine xnil (xget (h:=?_))
  refine xidxn (E:=RSG) (xs:=cs) (s:=s) (h1:=hlt) (h:=fun _ _=>?_)
  refine xgetEj (E:=RSG) (xs:=cs) hc (h:=?_)
  refine xif_dec (fun h2=>?_) (fun h2=>?_)
  · refine xnil (xget (h:=?_))
    refine xidxn (E:=RSG) (xs:=cs) (s:=s) (h1:=hlt) (h:=fun _ _=>?_)
    refine xgetEj (E:=RSG) (xs:=cs) hc (h:=?_)
    rw [wrap_succ k (by omega),wrap_id _ (by omega) (by omega)]
    refine hK _ _ _ _ (by omega) ⟨k+1,rfl,rfl,by omega,by omega,by omega,fun j y hj hy=>?_,rfl⟩
    by_cases e:j<k
    · exact hno j y e hy
    · obtain rfl:j=k:=by omega
      rw [hsg] at hy
      obtain rfl:=Option.some.inj hy
      have e4:¬ n<sg.next:=by simp only [Sg.next];omega
      simpa using e4
  · have e4:n<sg.next:=by simp only [Sg.next];omega
    have hfind:=find_first hsg (p:=fun s=>decide (n<s.next)) (by simpa using e4) hno
    rw [hfind] at hg
    simp only at hg
    refine xnil (xget (h:=?_))
    refine xidxn (E:=RSG) (xs:=cs) (s:=s) (h1:=hlt) (h:=fun _ _=>?_)
    refine xgetEj (E:=RSG) (xs:=cs) hc (h:=?_)
    have hidx:(n - sg.first).toNat<sg.ps.length:=by omega
    rw [show n - l.lo - (cumL (l.segs.take k):Int)=(((n - sg.first).toNat:Nat):Int) by omega]
    generalize hj:(n - sg.first).toNat=j at *
    refine xuse [Each RSegR cs l.segs,Blk b (rlogCells p nn l.lo l.safe s),Ar RSG s cs] ?_
    refine xrseg (k:=k) 0 hc hsg fun rs=>?_
    refine xfact 1 (P1:=Each (Ar U8) rs sg.ps) (fun g hg=>hg.length) fun hrl=>?_
    obtain ⟨r,hr⟩:∃ r,rs[j]? = some r:=⟨_,List.getElem?_eq_getElem (by omega)⟩
    obtain ⟨y,hy⟩:∃ y,sg.ps[j]? = some y:=⟨_,List.getElem?_eq_getElem (by omega)⟩
    have hyl:=b5 y (List.mem_of_getElem? hy)
    rw [hy] at hg
    refine xidxn (E:=SL) (xs:=rs) (s:=c.2.2) (h1:=by omega) (h:=fun _ _=>?_)
    refine xgetE (E:=SL) (xs:=rs) hr (h:=?_)
    refine xcl (pre:=[]) (CopyBytes_spec r y (by omega)) (rds_pick 1 (fun g hg=>each_read (R:=Ar U8) (S:=fun sl row=>RAr U8 sl row) (fun _ _ _ _ h s=>h.mono s) (fun _ _ _ h=>h.read) hg hr hy) (fun _ _ h s=>h.mono s)) ?_
    rintro ⟨t,_⟩ _ rfl
    refine app1 (ca1 ?_)
    refine xfold [Ar SL c.2.2 rs,Each (Ar U8) rs sg.ps,Each RSegR (cs.eraseIdx k) (l.segs.eraseIdx k)] (Each RSegR cs l.segs) (fun g hg=>reach_self hc hsg (rseg_fold g1 g2 hg)) ?_
    refine xrlog_back (p:=p) (l:=l) b nn s cs hi hn ?_
    rw [hg]
    exact xuse [RLogObj (some ⟨b,0,none⟩) p l,Ar U8 t y] (xret ⟨rfl,rfl⟩)
end Go.Cx
namespace Go.Cx
open Go Go.Cf
set_option linter.unusedVariables false
set_option maxRecDepth 100000
variable {B:Base}{As F:List HP}{α:Type}
theorem addL_lo {ss:List Sg}{sg:Sg}(h:ss.getLast? = some sg) (p:List UInt8) {a:Sg}{r:List Sg}(e:ss=a::r):∃ a' r',addL ss p=a'::r'∧a'.first=a.first:=by
  rw [addL_set h]
  subst e
  cases r with
  | nil=>
    obtain rfl:a=sg:=by simpa using h
    exact ⟨_,_,rfl,rfl⟩
  | cons b r=>exact ⟨a,_,rfl,rfl⟩
theorem rAppend14_spec (q p:Option Addr) (m:DM) (l:LM) (s:Sl) (xs:List UInt8) (hn0:l.segs=[]→l.safe=l.next) (hcl:l.curN≤999999999999) (hL:LInv (appendL m l xs).2.1) :
    Ct Pr F_ref14_Log_Append [.pointer q,s.v] (.tup [none,none]) [.int .i64,.int .i64] [RLogObj q p l,RefDev p m] (RAr U8 s xs)
    (fun t Bs=>t.1=(appendL m l xs).2.2.1∧(t.2.1=0↔(appendL m l xs).2.2.2=0)∧Bs=[RLogObj q p (appendL m l xs).2.1,RefDev p (appendL m l xs).1]):=by
  refine spec2 c_ref14_Log_Append fun B hr=>?_
  haveI:Fro B s U8 xs:=⟨hr⟩
  have hsx:=hr.1
  unfold ref14_Log_Append
  refine xrlog 0 fun hi b nn s0 cs hq hn hf hs=>?_
  subst hq
  have hfew:=hi.few
  have hlen0:=hf.len
  refine xnil (xget (h:=?_))
  refine xoff 3 (xif (fun hd=>?_) (fun hd=>?_))
  · have e:appendL m l xs=(m,l,0,10):=by unfold appendL;rw [if_pos hd]
    rw [e]
    refine xrlog_back (p:=p) (l:=l) b nn s0 cs hi hn ?_
    exact xuse [RLogObj (some ⟨b,0,none⟩) p l,RefDev p m] (xret ⟨rfl,by simp,rfl⟩)
  refine xif_dec (fun hlen=>?_) (fun hlen=>?_)
  · have e:appendL m l xs=(m,l,0,2):=by unfold appendL;rw [if_neg (by rw [hd];decide),if_pos (by omega)]
    rw [e]
    refine xrlog_back (p:=p) (l:=l) b nn s0 cs hi hn ?_
    exact xuse [RLogObj (some ⟨b,0,none⟩) p l,RefDev p m] (xret ⟨rfl,by simp,rfl⟩)
  have hlen':¬ xs.length>1024:=by omega
  -- what the last segment says
  have hcase:(cs=[]∧l.segs=[]∧l.full=false∧l.curN=l.n)∨(∃ sg c,cs≠[]∧l.segs.getLast? = some sg∧cs[cs.length - 1]? = some c∧c.1=sg.n∧c.2.1=sg.size∧l.full=decide (sg.size≥1024)∧l.curN=sg.n):=by
    cases hc:l.segs.getLast? with
    | none=>
      have e:=List.getLast?_eq_none_iff.1 hc
      refine .inl ⟨List.eq_nil_of_length_eq_zero (by rw [hlen0,e];rfl),e,?_,?_⟩
      · unfold LM.full LM.cur;rw [hc]
      · unfold LM.curN LM.cur;rw [hc]
    | some sg=>
      obtain ⟨c,g1,g2,g3,g4,g5⟩:=rf_last hf hc
      refine .inr ⟨sg,c,fun e=>?_,rfl,g1,g2,g3,?_,?_⟩
      · rw [e] at g1;simp at g1
      · unfold LM.full LM.cur;rw [hc]
      · unfold LM.curN LM.cur;rw [hc]
  have hcurN:1≤l.curN∧l.curN≤2000000000000:=by
    rcases hcase with ⟨_,_,_,e⟩ | ⟨sg,c,_,hc,_,_,_,_,e⟩
    · rw [e];exact hi.n
    · rw [e];exact (hi.segs sg (List.mem_of_getLast? hc)).1
  refine xuse [Blk b (rlogCells p nn l.lo l.safe s0),Ar RSG s0 cs,Each RSegR cs l.segs,RefDev p m] ?_
  refine xnil (xget (h:=xnil (xget (h:=?_))))
  refine xjoin2 (fun(x:Int) (y:Bool) As'=>x=(if l.full then l.curN+1 else l.curN)∧y=decide (l.segs=[]∨l.full=true)∧As'=[Blk b (rlogCells p nn l.lo l.safe s0),Ar RSG s0 cs,Each RSegR cs l.segs,RefDev p m]) (fun K hK=>?_) ?_
  · rcases hcase with ⟨e,e2,e3,e4⟩ | ⟨sg,c,e,hc,hc1,g1,g2,e3,e4⟩
    · have h0:s0.n=0:=by rw [hs,e];rfl
      refine xiff (by rw [h0];rfl) (hK _ _ _ ⟨?_,?_,rfl⟩)
      · rw [e3,e4,hn e2];rfl
      · rw [h0];simp [e2]
    · have hpos:0<cs.length:=List.length_pos_iff.2 e
      have hne:l.segs≠[]:=by rintro e;rw [e] at hc;simp at hc
      have h0:((s0.n:Int) == 0)=false:=by simp;omega
      refine xift (by rw [h0];rfl) (xdraw (xnil (xget (h:=xnil (xget (h:=?_))))))
      rw [wrap_id _ (by omega) (by omega),show (s0.n:Int) - 1=((cs.length - 1:Nat):Int) by omega]
      refine xidxn (E:=RSG) (xs:=cs) (s:=s0) (h1:=by omega) (h:=fun _ _=>?_)
      refine xgetE (E:=RSG) (xs:=cs) hc1 (h:=?_)
      refine xgetEj (E:=RSG) (xs:=cs) hc1 (h:=?_)
      refine xgetEj (E:=RSG) (xs:=cs) hc1 (h:=?_)
      refine xnew fun b2=>?_
      iterate 3 (refine xset (h:=?_))
      refine xget (h:=xget (h:=xjoin (xif_dec (fun h1=>xget (h:=?_)) (fun h1=>?_))))
      · rw [g1,wrap_id _ (by omega) (by omega)]
        have hfu:l.full=true:=by rw [e3];simpa [g2] using h1
        refine xuse [Blk b (rlogCells p nn l.lo l.safe s0),Ar RSG s0 cs,Each RSegR cs l.segs,RefDev p m] (hK _ _ _ ⟨?_,?_,rfl⟩)
        · rw [hfu,e4];rfl
        · simp [hfu]
      · have hfu:l.full=false:=by rw [e3];simpa [g2] using h1
        refine xuse [Blk b (rlogCells p nn l.lo l.safe s0),Ar RSG s0 cs,Each RSegR cs l.segs,RefDev p m] (hK _ _ _ ⟨?_,?_,rfl⟩)
        · rw [hfu,e4,g1];rfl
        · rw [h0];simp [hfu,hne]
  rintro (n5:Int) (more:Bool) _ ⟨hn5,hmore,rfl⟩
  refine xcl (rNext_raw b p nn l s0 cs hs hf hi) rdb ?_
  rintro ⟨t,_⟩ _ ⟨ht,rfl⟩
  simp only at ht;subst ht
  refine app2 (ca1 ?_)
  have hcond:((decide (l.next≥1099511627776))||(decide (n5>999999999999)))=decide (l.next≥1099511627776∨(l.full=true∧l.curN=lastN)):=by
    rw [Bool.eq_iff_iff]
    simp only [Bool.or_eq_true,decide_eq_true_eq]
    rw [hn5]
    have hl:lastN=999999999999:=rfl
    cases l.full
    · rw [if_neg (by decide)];simp;omega
    · rw [if_pos rfl];simp;omega
  simp only
  rw [hcond]
  refine xif_dec (fun h1=>?_) (fun h1=>?_)
  · have e:appendL m l xs=(m,l,0,12):=by unfold appendL;rw [if_neg (by rw [hd];decide),if_neg hlen',if_pos h1]
    rw [e]
    refine xrlog_back (p:=p) (l:=l) b nn s0 cs hi hn ?_
    exact xuse [RLogObj (some ⟨b,0,none⟩) p l,RefDev p m] (xret ⟨rfl,by simp,rfl⟩)
  have heq:appendL m l xs=(let y:=if l.full then syncL m l else (m,l,0)
      if y.2.2≠0 then (y.1,y.2.1,0,y.2.2)
      else
        let n:=if l.full then l.curN+1 else l.curN
        let a:=appendM y.1 (fN n) (frameN xs)
        if a.2≠0 then (a.1,y.2.1,0,a.2)
        else
          let ss:=if l.segs=[]∨l.full=true then l.segs++[⟨n,l.next,0,[]⟩] else l.segs
          (a.1,{ y.2.1 with segs:=addL ss xs },l.next,0)):=by
    unfold appendL;rw [if_neg (by rw [hd];decide),if_neg hlen',if_neg h1]
  refine xjoin1 (fun(c:Bool) As'=>c=l.full∧As'=[Blk b (rlogCells p nn l.lo l.safe s0),Ar RSG s0 cs,Each RSegR cs l.segs,RefDev p m]) (fun K hK=>?_) ?_
  · refine xif (fun h2=>xnil (xget (h:=?_))) (fun h2=>?_)
    · refine xuse [Blk b (rlogCells p nn l.lo l.safe s0),Ar RSG s0 cs,Each RSegR cs l.segs,RefDev p m] (hK _ _ ⟨?_,rfl⟩)
      rcases hcase with ⟨e,e2,e3,e4⟩ | ⟨sg,c,e,hc,hc1,g1,g2,e3,e4⟩
      · rw [e3,hs,e];rfl
      · have hpos:0<cs.length:=List.length_pos_iff.2 e
        have hne:l.segs≠[]:=by rintro e;rw [e] at hc;simp at hc
        rw [hmore] at h2
        have:l.full=true:=by simpa [hne] using h2
        rw [this];simp;omega
    · refine xuse [Blk b (rlogCells p nn l.lo l.safe s0),Ar RSG s0 cs,Each RSegR cs l.segs,RefDev p m] (hK _ _ ⟨?_,rfl⟩)
      rw [hmore] at h2
      simp at h2
      exact h2.2.symm
  rintro c _ ⟨rfl,rfl⟩
  -- Sync, where the segment is full
  refine xjoin1 (fun(x:Bool) As'=>∃ (m1:DM) (l1:LM) (e:Int),(if l.full then syncL m l else (m,l,0))=(m1,l1,e)∧x=decide (e≠0)∧l1.segs=l.segs∧l1.n=l.n∧l1.first=l.first∧As'=[RLogObj (some ⟨b,0,none⟩) p l1,RefDev p m1]) (fun K hK=>?_) ?_
  · refine xif (fun h2=>?_) (fun h2=>?_)
    · refine xrlog_back (p:=p) (l:=l) b nn s0 cs hi hn ?_
      refine xcl (rSync14_spec (some ⟨b,0,none⟩) p m l hn0) rdb ?_
      rintro ⟨t,_⟩ _ ⟨ht,rfl⟩
      simp only at ht;subst ht
      obtain ⟨k1,k2,k3⟩:=syncL_log m l
      refine app2 (ca1 (xuse [RLogObj (some ⟨b,0,none⟩) p (syncL m l).2.1,RefDev p (syncL m l).1] (hK _ _ ⟨_,_,(syncL m l).2.2,by rw [if_pos h2],?_,k1,k2,k3,rfl⟩)))
      by_cases h3:(syncL m l).2.2=0
      · simp [h3]
      · simp [h3]
    · refine xrlog_back (p:=p) (l:=l) b nn s0 cs hi hn ?_
      refine xuse [RLogObj (some ⟨b,0,none⟩) p l,RefDev p m] (hK _ _ ⟨m,l,0,by rw [if_neg (by rw [h2];decide)],by simp,rfl,rfl,rfl,rfl⟩)
  rintro c As2 ⟨m1,l1,e,hy,rfl,hs1,hn1,hf1,rfl⟩
  rw [hy,←hn5] at heq
  refine xif_dec (fun h2=>?_) (fun h2=>?_)
  · simp only at heq
    rw [if_pos h2] at heq
    rw [heq]
    exact xret ⟨rfl,by simp [h2],rfl⟩
  have h2':e=0:=by omega
  subst h2'
  simp only [ne_eq,not_true_eq_false,if_false] at heq
  have hn5b:1≤n5∧n5≤2000000000001:=by
    obtain ⟨c1,c2⟩:=hcurN
    rw [hn5]
    cases l.full
    · rw [if_neg (by decide)];omega
    · rw [if_pos rfl];omega
  refine xcl (pre:=[]) (rPut13_spec s xs (by omega)) rdb ?_
  rintro ⟨sb,t1,_⟩ _ ⟨ht1,rfl⟩
  simp only at ht1;subst ht1
  refine app1 (ca2 (xdraw (xnil ?_)))
  refine xuse [RLogObj (some ⟨b,0,none⟩) p l1,RefDev p m1,Ar U8 sb (frameN xs)] ?_
  refine xrlog 0 fun hi1 b' nn1 s1 cs1 hq hnn1 hfl1 hsl1=>?_
  obtain rfl:b=b':=by cases hq;rfl
  have hfew1:=hi1.few
  have hcl1:=hfl1.len
  refine xget (h:=?_)
  refine xname (by omega) (by omega) (xchk (h:=?_))
  refine xcl (rAppend_spec p m1 (fN n5) sb (frameN xs)) rdb ?_
  rintro ⟨t,_⟩ _ ⟨ht,rfl⟩
  simp only at ht;subst ht
  refine app1 (ca1 (xif (fun h2=>?_) (fun h2=>?_)))
  · have h2:¬ (appendM m1 (fN n5) (frameN xs)).2=0:=by simpa using h2
    rw [if_pos h2] at heq
    rw [heq]
    refine xrlog_back (p:=p) (l:=l1) b nn1 s1 cs1 hi1 hnn1 ?_
    exact xuse [RLogObj (some ⟨b,0,none⟩) p l1,RefDev p (appendM m1 (fN n5) (frameN xs)).1] (xret ⟨rfl,Iff.rfl,rfl⟩)
  have h2:(appendM m1 (fN n5) (frameN xs)).2=0:=by simpa using h2
  rw [if_neg (by rw [h2];simp)] at heq
  generalize (appendM m1 (fN n5) (frameN xs)).1=m2 at *
  have hnx:=next_same hs1 hf1
  refine xcl (rNext_raw b p nn1 l1 s1 cs1 hsl1 hfl1 hi1) rdb ?_
  rintro ⟨t,_⟩ _ ⟨ht,rfl⟩
  simp only at ht;subst ht
  rw [hnx]
  refine app2 (ca1 ?_)
  refine xlen sb fun hsb _=>?_
  replace hsb:(frameN xs).length=sb.n:=hsb
  have hfl:=frame_len xs
  refine xjoin0 (fun As'=>∃ (s2:Sl) (cs2:List CR) (ss:List Sg),ss=(if l.segs=[]∨l.full=true then l.segs++[⟨n5,l.next,0,[]⟩] else l.segs)∧As'=[Blk b (rlogCells p nn1 l1.lo l1.safe s2),Ar RSG s2 cs2,Each RSegR cs2 ss,RefDev p m2,Ar U8 sb (frameN xs)]) (fun K hK=>?_) ?_
  · rw [hmore]
    refine xif_dec (fun h3=>?_) (fun h3=>?_)
    · refine xnil (xget (h:=xnew fun b1=>?_))
      refine xapp1 (E:=RSG) ((n5,(0:Int),⟨none,0,0⟩):CR) (hb:=by omega) (h:=fun s2=>xnil (xset (h:=?_)))
      refine xnone SL ?_
      refine xadd (A:=Each (Ar U8) [] []) trivial ?_
      refine xfold [Each RSegR cs1 l1.segs,Ar SL ⟨none,0,0⟩ [],Each (Ar U8) [] []] (Each RSegR (cs1++[(n5,(0:Int),⟨none,0,0⟩)]) (l1.segs++[⟨n5,l.next,0,[]⟩])) (fun g hg=>each_snoc (star_cons (l:=[Ar SL ⟨none,0,0⟩ [],Each (Ar U8) [] []]) (fun h hh=>star_in ⟨rfl,rfl,[],hh⟩) hg)) ?_
      refine xuse [Blk b (rlogCells p nn1 l1.lo l1.safe s2),Ar RSG s2 (cs1++[(n5,(0:Int),⟨none,0,0⟩)]),Each RSegR (cs1++[(n5,(0:Int),⟨none,0,0⟩)]) (l1.segs++[⟨n5,l.next,0,[]⟩]),RefDev p m2,Ar U8 sb (frameN xs)] (hK _ ⟨s2,_,_,?_,rfl⟩)
      rw [if_pos h3,hs1]
    · refine xuse [Blk b (rlogCells p nn1 l1.lo l1.safe s1),Ar RSG s1 cs1,Each RSegR cs1 l1.segs,RefDev p m2,Ar U8 sb (frameN xs)] (hK _ ⟨s1,cs1,l1.segs,by rw [if_neg h3,hs1],rfl⟩)
  rintro As2 ⟨s2,cs2,ss,hss,rfl⟩
  rw [←hss] at heq
  have hssn:ss≠[]:=by
    rw [hss]
    split
    · simp
    · rename_i h3
      exact fun e=>h3 (.inl e)
  have hssl:ss.length≤65:=by
    rw [hss]
    split
    · rw [List.length_append,List.length_singleton];omega
    · omega
  refine xfact 2 (P1:=Each RSegR cs2 ss) (fun g hg=>rf_of hg) fun hf2=>?_
  refine xlen s2 fun hs2 _=>?_
  replace hs2:cs2.length=s2.n:=hs2
  have hcl2:=hf2.len
  have hL2:=hL
  rw [heq] at hL2
  obtain ⟨sg,hsg⟩:∃ sg,ss.getLast? = some sg:=⟨_,List.getLast?_eq_some_getLast hssn⟩
  have hne2:cs2≠[]:=fun e=>hssn (List.eq_nil_of_length_eq_zero (by rw [←hcl2,e];rfl))
  have hpos2:0<cs2.length:=List.length_pos_iff.2 hne2
  obtain ⟨c,g1,g2,g3,g4,g5⟩:=rf_last hf2 hsg
  have hsgk:ss[cs2.length - 1]? = some sg:=by rw [hcl2];exact getLast_get hsg
  have hlt:=(List.getElem?_eq_some_iff.1 g1).1
  have hbnd:(0≤sg.size∧sg.size≤16777216)∧(sg.ps.length:Int)≤sg.size:=by
    have hm:=List.mem_of_getLast? hsg
    rw [hss] at hm
    have inl:sg∈l.segs→(0≤sg.size∧sg.size≤16777216)∧(sg.ps.length:Int)≤sg.size:=fun hm=>⟨(hi.segs sg hm).2.2.1,(hi.segs sg hm).2.2.2.1⟩
    split at hm
    · rcases List.mem_append.1 hm with hm | hm
      · exact inl hm
      · obtain rfl:=List.mem_singleton.1 hm
        simp
    · exact inl hm
  have hlo:({ l1 with segs:=addL ss xs }:LM).lo=l1.lo:=by
    have e1:l1.lo=l.lo:=by unfold LM.lo;rw [hs1,hf1]
    rw [e1]
    obtain ⟨a,r,har⟩:∃ a r,ss=a::r:=by
      cases ss with
      | nil=>exact absurd rfl hssn
      | cons a r=>exact ⟨a,r,rfl⟩
    obtain ⟨a',r',h1',h2'⟩:=addL_lo hsg xs har
    have h3:({ l1 with segs:=addL ss xs }:LM).lo=a.first:=by
      show (match addL ss xs with | []=>l1.first | s::_=>s.first)=_
      rw [h1'];exact h2'
    rw [h3]
    rw [har] at hss
    cases hsl:l.segs with
    | nil=>
      rw [hsl,if_pos (.inl rfl)] at hss
      have:a=⟨n5,l.next,0,[]⟩:=by simpa using (List.cons.inj hss).1
      rw [this]
      unfold LM.next LM.cur LM.lo
      rw [hsl];rfl
    | cons y z=>
      have:a=y:=by
        rw [hsl] at hss
        split at hss
        · exact (List.cons.inj hss).1
        · exact (List.cons.inj hss).1
      rw [this]
      unfold LM.lo
      rw [hsl]
  have hidx:IntKind.i64.wrap ((s2.n:Int) - 1)=((cs2.length - 1:Nat):Int):=by rw [wrap_id _ (by omega) (by omega)];omega
  refine xnil (xget (h:=xdraw (xnil (xget (h:=xnil (xget (h:=?_)))))))
  rw [hidx]
  refine xidxn (E:=RSG) (xs:=cs2) (s:=s2) (h1:=hlt) (h:=fun _ _=>?_)
  refine xgetEj (E:=RSG) (xs:=cs2) g1 (h:=?_)
  refine xidxn (E:=RSG) (xs:=cs2) (s:=s2) (h1:=hlt) (h:=fun _ _=>?_)
  rw [g3,wrap_id _ (by omega) (by omega)]
  refine xsetEj (E:=RSG) (xs:=cs2) ((c.1,sg.size+(sb.n:Int),c.2.2):CR) g1 rfl (by decide) rfl ?_
  have g1':(cs2.set (cs2.length - 1) ((c.1,sg.size+(sb.n:Int),c.2.2):CR))[cs2.length - 1]? = some ((c.1,sg.size+(sb.n:Int),c.2.2):CR):=by
    rw [List.getElem?_set_self hlt]
  have hlt':cs2.length - 1<(cs2.set (cs2.length - 1) ((c.1,sg.size+(sb.n:Int),c.2.2):CR)).length:=by rw [List.length_set];exact hlt
  generalize hk:cs2.length - 1=k at *
  refine xdraw (xnil (xget (h:=xnil (xget (h:=?_)))))
  refine xidxn (E:=RSG) (xs:=cs2.set k ((c.1,sg.size+(sb.n:Int),c.2.2):CR)) (s:=s2) (h1:=hlt') (h:=fun _ _=>?_)
  refine xgetEj (E:=RSG) (xs:=cs2.set k ((c.1,sg.size+(sb.n:Int),c.2.2):CR)) g1' (h:=?_)
  refine xcl (pre:=[]) (CopyBytes_spec s xs (by omega)) rdb ?_
  rintro ⟨s4,_⟩ _ rfl
  refine app1 (ca1 (xchkEj (E:=RSG) (xs:=cs2.set k ((c.1,sg.size+(sb.n:Int),c.2.2):CR)) g1' (h:=xchk (h:=xchk (h:=xnew fun b1=>?_)))))
  refine xuse [Each RSegR cs2 ss,Blk b1 [s4.v],Ar U8 s4 xs,Ar RSG s2 (cs2.set k ((c.1,sg.size+(sb.n:Int),c.2.2):CR)),Blk b (rlogCells p nn1 l1.lo l1.safe s2),RefDev p m2] ?_
  refine xrseg (k:=k) 0 g1 hsgk fun rs=>?_
  refine xfact 1 (P1:=Each (Ar U8) rs sg.ps) (fun g hg=>hg.length) fun hrl=>?_
  refine xapp1 (E:=SL) s4 (hb:=by omega) (h:=fun s5=>xchk (h:=?_))
  refine xidxn (E:=RSG) (xs:=cs2.set k ((c.1,sg.size+(sb.n:Int),c.2.2):CR)) (s:=s2) (h1:=hlt') (h:=fun _ _=>?_)
  refine xsetEj (E:=RSG) (xs:=cs2.set k ((c.1,sg.size+(sb.n:Int),c.2.2):CR)) ((c.1,sg.size+(sb.n:Int),s5):CR) g1' rfl (by decide) rfl ?_
  rw [List.set_set]
  have hadd:=addL_set hsg xs
  have hkk:ss.length - 1=k:=by rw [←hcl2];exact hk
  rw [hkk] at hadd
  rw [heq]
  refine xfold [Ar SL s5 (rs++[s4]),Each (Ar U8) rs sg.ps,Ar U8 s4 xs,Each RSegR (cs2.eraseIdx k) (ss.eraseIdx k)] (Each RSegR (cs2.set k ((c.1,sg.size+(sb.n:Int),s5):CR)) (addL ss xs)) (fun g hg=>?_) ?_
  · rw [hadd]
    refine each_put hlt (by have:=(List.getElem?_eq_some_iff.1 hsgk).1;exact this) ?_
    have h1:star [Ar SL s5 (rs++[s4]),Each (Ar U8) (rs++[s4]) (sg.ps++[xs]),Each RSegR (cs2.eraseIdx k) (ss.eraseIdx k)] g:=by
      refine star_cons (l:=[Each (Ar U8) rs sg.ps,Ar U8 s4 xs,Each RSegR (cs2.eraseIdx k) (ss.eraseIdx k)]) (fun h hh=>?_) hg
      obtain ⟨a,e,pa,pb,d,sa,sb'⟩:=(star_append [Each (Ar U8) rs sg.ps,Ar U8 s4 xs] [Each RSegR (cs2.eraseIdx k) (ss.eraseIdx k)]).1 hh
      exact ⟨a,e,each_snoc pa,pb,d,sa,sb'⟩
    obtain ⟨a,e,pa,pb,d,sa,sb'⟩:=(star_append [Ar SL s5 (rs++[s4]),Each (Ar U8) (rs++[s4]) (sg.ps++[xs])] [Each RSegR (cs2.eraseIdx k) (ss.eraseIdx k)]).1 h1
    exact ⟨a,e,⟨g2,by simp only;rw [hsb],_,pa⟩,pb,d,sa,sb'⟩
  refine xfold [Blk b (rlogCells p nn1 l1.lo l1.safe s2),Ar RSG s2 (cs2.set k ((c.1,sg.size+(sb.n:Int),s5):CR)),Each RSegR (cs2.set k ((c.1,sg.size+(sb.n:Int),s5):CR)) (addL ss xs)] (RLogObj (some ⟨b,0,none⟩) p { l1 with segs:=addL ss xs }) (fun g hg=>⟨hL2,b,nn1,s2,_,rfl,fun e=>?_,by rw [hlo];exact hg⟩) ?_
  · rw [hadd] at e
    exact absurd e (by intro e;exact hssn (List.eq_nil_of_length_eq_zero (by have:=congrArg List.length e;simpa using this)))
  exact xuse [RLogObj (some ⟨b,0,none⟩) p { l1 with segs:=addL ss xs },RefDev p m2] (xret ⟨rfl,by simp,rfl⟩)
end Go.Cx
namespace Go.Cx
open Go Go.Cf
set_option linter.unusedVariables false
set_option maxRecDepth 100000
variable {B:Base}{As F:List HP}{α:Type}
theorem rFind_spec (p:Option Addr) (m:DM) (nm:ByteArray):Ct Pr F_ref12_Device_Find [.pointer p,.string nm] .one [.int .i64] [RefDev p m] emp (fun t Bs=>t.1=fIdx m.fs nm∧Bs=[RefDev p m]):=by
  refine spec1 (φ:=XCall Pr F_ref12_Device_Find [.pointer p,.string nm] .one [.int .i64]) id fun B _=>?_
  refine xrdev 0 fun hi b s cs hp sf hn=>?_
  subst hp
  have hlen:=hi.len
  refine xcl (rFind_raw b m.room (leftR m) m.down s cs m.fs nm hi.sorted sf.names (by omega)) rdb ?_
  rintro ⟨r,_⟩ _ ⟨hr,rfl⟩
  exact app2 (ca1 (xrdev_back b s cs hi (xret ⟨hr,rfl⟩)))
theorem find_new (nm:ByteArray):fIdx k20.fs nm = -1:=rfl
theorem rOpen14_new (d:Option Addr):Ct Pr F_ref14_Open [.pointer d] (.tup [none,none]) [.ptr,.int .i64] [RefDev d k20] emp
    (fun t Bs=>t.2.1=0∧(∃ b,t.1=some ⟨b,0,none⟩)∧Bs=[RLogObj t.1 d (logOf [] 0),RefDev d k20]):=by
  refine spec2 c_ref14_Open fun B _=>?_
  unfold ref14_Open
  refine xoff 0 (xiff rfl ?_)
  refine xcl (rFind_spec d k20 _) rdb ?_
  rintro ⟨t,_⟩ _ ⟨ht,rfl⟩
  obtain rfl:t = -1:=by rw [show t=_ from ht];exact find_new _
  refine app1 (ca1 (xjoin (xiff (by decide) (xiff rfl ?_))))
  have hhead:Ct Pr F_ref14_Head [.pointer d] (.tup [none,none,none]) [.int .i64,.int .i64,.int .i64] [RefDev d k20] emp (fun t Bs=>t=(1,0,0,())∧Bs=[RefDev d k20]):=by
    refine spec3 c_ref14_Head fun B _=>?_
    unfold ref14_Head
    refine xcl (rFind_spec d k20 _) rdb ?_
    rintro ⟨t,_⟩ _ ⟨ht,rfl⟩
    obtain rfl:t = -1:=by rw [show t=_ from ht];exact find_new _
    exact app1 (ca1 (xift (by decide) (xret ⟨rfl,rfl⟩)))
  refine xcl hhead rdb ?_
  rintro _ _ ⟨rfl,rfl⟩
  refine app1 (ca3 (xiff rfl (xnew fun b=>?_)))
  have hread:Ct Pr F_ref14_Log_read [.pointer (some ⟨b,0,none⟩)] .one [.int .i64] [Blk b [.pointer d,.int .i64 1,.int .i64 0,.slice none 0 0,.int .i64 0],RefDev d k20] emp (fun t Bs=>t.1=0∧Bs=[Blk b [.pointer d,.int .i64 1,.int .i64 0,.slice none 0 0,.int .i64 0],RefDev d k20]):=by
    refine spec1 c_ref14_Log_read fun B _=>?_
    unfold ref14_Log_read
    refine xloop0 (fun _ As'=>As'=[Blk b [.pointer d,.int .i64 1,.int .i64 0,.slice none 0 0,.int .i64 0],RefDev d k20]) 0 rfl ?_
    rintro n _ K rfl _
    refine xdraw (xnil (xget (h:=xnil (xget (s:=.slice) (x:=⟨none,0,0⟩) (h:=?_)))))
    rw [show IntKind.i64.wrap (1+((⟨none,0,0⟩:Sl).n:Int))=1 from wrap_id _ (by decide) (by decide)]
    refine xname (by decide) (by decide) (xnil (xget (h:=?_)))
    refine xcl (rFind_spec d k20 _) rdb ?_
    rintro ⟨t,_⟩ _ ⟨ht,rfl⟩
    obtain rfl:t = -1:=by rw [show t=_ from ht];exact find_new _
    exact app1 (ca1 (xift (by decide) (xuse [Blk b [.pointer d,.int .i64 1,.int .i64 0,.slice none 0 0,.int .i64 0],RefDev d k20] (xret ⟨rfl,rfl⟩))))
  refine xcl hread rdb ?_
  rintro ⟨t,_⟩ _ ⟨ht,rfl⟩
  obtain rfl:t=0:=ht
  refine app2 (ca1 (xiff rfl ?_))
  refine xcl (rNames_spec d k20) rdb ?_
  rintro ⟨s,_⟩ _ rfl
  refine app2 (ca1 ?_)
  refine xlen (E:=ST) s fun hs _=>?_
  replace hs:0=s.n:=hs
  refine xuse [Blk b [.pointer d,.int .i64 1,.int .i64 0,.slice none 0 0,.int .i64 0],RefDev d k20] ?_
  refine xloop1 (fun _ (i:Int) As'=>i=0∧As'=[Blk b [.pointer d,.int .i64 1,.int .i64 0,.slice none 0 0,.int .i64 0],RefDev d k20]) 0 ⟨rfl,rfl⟩ ?_
  rintro n i _ K ⟨rfl,rfl⟩ _
  refine xiff (by rw [←hs];rfl) ?_
  refine xnone RSG ?_
  refine xadd (A:=Each RSegR [] []) trivial ?_
  have hi:LInv (logOf [] 0):=by
    obtain ⟨gs,safe,f1,f2,f3,_⟩:=fill_rel [] (by simp)
    have h:=f2.linv (by simp at f3;simp [f3])
    rw [←f1] at h
    exact h
  have hNx:Ct Pr F_ref14_Log_Next [.pointer (some ⟨b,0,none⟩)] .one [.int .i64] [Blk b [.pointer d,.int .i64 1,.int .i64 0,.slice none 0 0,.int .i64 0],Ar RSG ⟨none,0,0⟩ []] emp (fun t Bs=>t.1=0∧Bs=[Blk b [.pointer d,.int .i64 1,.int .i64 0,.slice none 0 0,.int .i64 0],Ar RSG ⟨none,0,0⟩ []]):=
    rNext_raw b d 1 (logOf [] 0) ⟨none,0,0⟩ [] rfl ⟨rfl,fun i c s h=>by simp at h⟩ hi
  refine xcl hNx rdb ?_
  rintro ⟨t,_⟩ _ ⟨ht,rfl⟩
  obtain rfl:t=0:=ht
  refine app2 (ca1 (xnil (xset (h:=?_))))
  refine xfold [Blk b [.pointer d,.int .i64 1,.int .i64 0,.slice none 0 0,.int .i64 0],Ar RSG ⟨none,0,0⟩ [],Each RSegR [] []] (RLogObj (some ⟨b,0,none⟩) d (logOf [] 0)) (fun g hg=>⟨hi,b,1,⟨none,0,0⟩,[],rfl,fun _=>rfl,hg⟩) ?_
  exact xuse [RLogObj (some ⟨b,0,none⟩) d (logOf [] 0),RefDev d k20] (xret ⟨rfl,⟨b,rfl⟩,rfl⟩)
end Go.Cx
namespace Go.Cx
open Go Go.Cf
set_option linter.unusedVariables false
set_option maxRecDepth 100000
variable {B:Base}{As F:List HP}{α:Type}
theorem spent_code {m:DM}{g:DM→DM}:(spent m g).2=0∨(spent m g).2=10:=by
  unfold spent
  split
  · exact .inr rfl
  · exact .inl rfl
theorem drop_there {m:DM}{nm:ByteArray}(hd:m.down=false) (ht:thereL m.fs nm.toList=true):dropM m nm=removeM m nm:=by
  unfold dropM
  have:(removeM m nm).2≠6:=by
    unfold removeM onFile
    rw [if_neg (by rw [hd];decide),if_neg (by rw [ht];decide)]
    rcases spent_code (m:=m) (g:=fun m'=>{ m' with fs:=m'.fs.eraseIdx (findL m.fs nm.toList) }) with h | h
    · rw [h];decide
    · rw [h];decide
  rw [if_neg this]
theorem drop_none {m:DM}{nm:ByteArray}(hd:m.down=false) (ht:thereL m.fs nm.toList=false):dropM m nm=(m,0):=by
  unfold dropM
  have:removeM m nm=(m,6):=by
    unfold removeM onFile
    rw [if_neg (by rw [hd];decide),if_pos (by rw [ht];decide)]
  rw [this];rfl
theorem rlay_raw (b:Nat) (p:Option Addr) (m:DM) (nn lo safe:Int) (s:Sl) (sg:Sg) (hd:m.down=false) (hn:0≤sg.n∧sg.n≤4398046511104) (hf:0≤sg.first∧sg.first≤4398046511104):Ct Pr F_ref14_Log_lay [.pointer (some ⟨b,0,none⟩),.int .i64 sg.n,.int .i64 sg.first] .one [.int .i64] [Blk b (rlogCells p nn lo safe s),RefDev p m] emp
    (fun t Bs=>(t.1=0↔(layM m sg).2=0)∧Bs=[Blk b (rlogCells p nn lo safe s),RefDev p (layM m sg).1]):=by
  refine spec1 c_ref14_Log_lay fun B _=>?_
  unfold ref14_Log_lay
  rw [wrap_pos hn.1 hn.2,wrap_pos hf.1 hf.2]
  refine xcl (pre:=[]) (rPut02_spec ⟨none,0,0⟩ [] sg.n.toNat (by omega) (by decide)) (rds_of fun _ _ _ _ _=>⟨rfl,rfl,fun h=>absurd h (Nat.lt_irrefl 0)⟩) ?_
  rintro ⟨s4,e,_⟩ _ ⟨_,rfl⟩
  have hb8:=be8_len sg.n.toNat
  have hb9:=be8_len sg.first.toNat
  refine app1 (ca2 ?_)
  refine xcl (pre:=[]) (rPut02_spec s4 ([]++be8 sg.n.toNat) sg.first.toNat (by omega) (by rw [List.nil_append,hb8];decide)) rdb ?_
  rintro ⟨s5,e,_⟩ _ ⟨_,rfl⟩
  refine app1 (ca2 ?_)
  rw [List.nil_append]
  refine xcl (pre:=[]) (rPut13_spec s5 (be8 sg.n.toNat++be8 sg.first.toNat) (by rw [List.length_append,hb8,hb9];decide)) rdb ?_
  rintro ⟨s6,e,_⟩ _ ⟨_,rfl⟩
  refine app1 (ca2 (xnil (xget (h:=?_))))
  simp only
  unfold layM
  dsimp only
  refine xcl (rFind_spec p m newN) rdb ?_
  rintro ⟨t,_⟩ _ ⟨ht,rfl⟩
  simp only at ht;subst ht
  refine app1 (ca1 ?_)
  refine xuse [Blk b (rlogCells p nn lo safe s),RefDev p m,Ar U8 s6 (frameN (be8 sg.n.toNat++be8 sg.first.toNat))] ?_
  refine xjoin1 (fun(c:Bool) As'=>c=decide ((dropM m newN).2≠0)∧As'=[Blk b (rlogCells p nn lo safe s),RefDev p (dropM m newN).1,Ar U8 s6 (frameN (be8 sg.n.toNat++be8 sg.first.toNat))]) (fun K hK=>?_) ?_
  · cases ht:thereL m.fs newN.toList with
    | true=>
      rw [fIdx_yes ht,drop_there hd ht] at *
      refine xift (by simp) (xnil (xget (h:=?_)))
      refine xcl (rRemove_spec p m newN) rdb ?_
      rintro ⟨t,_⟩ _ ⟨ht,rfl⟩
      simp only at ht;subst ht
      refine app1 (ca1 (xuse [Blk b (rlogCells p nn lo safe s),RefDev p (removeM m newN).1,Ar U8 s6 (frameN (be8 sg.n.toNat++be8 sg.first.toNat))] (hK _ _ ⟨?_,rfl⟩)))
      rw [Bool.eq_iff_iff];simp
    | false=>
      rw [fIdx_no ht,drop_none hd ht] at *
      exact xiff (by decide) (hK _ _ ⟨by simp,rfl⟩)
  rintro c _ ⟨rfl,rfl⟩
  refine xif_dec (fun h=>?_) (fun h=>?_)
  · rw [if_pos h]
    exact xuse [Blk b (rlogCells p nn lo safe s),RefDev p (dropM m newN).1] (xret ⟨by simp [h],rfl⟩)
  rw [if_neg h]
  refine xnil (xget (h:=?_))
  refine xcl (rAppend_spec p (dropM m newN).1 newN s6 (frameN (be8 sg.n.toNat++be8 sg.first.toNat))) rdb ?_
  rintro ⟨t,_⟩ _ ⟨ht,rfl⟩
  simp only at ht;subst ht
  refine app1 (ca1 ?_)
  generalize hA:appendM (dropM m newN).1 newN (frameN (be8 sg.n.toNat++be8 sg.first.toNat))=A
  obtain ⟨m1,e1⟩:=A
  dsimp only
  refine xuse [Blk b (rlogCells p nn lo safe s),RefDev p m1] ?_
  by_cases h1:e1=0
  · subst h1
    rw [if_neg (by simp)]
    refine xjoin (xift rfl (xnil (xget (h:=?_))))
    refine xcl (rSync_spec p m1 newN) rdb ?_
    rintro ⟨t,_⟩ _ ⟨ht,rfl⟩
    simp only at ht;subst ht
    refine app1 (ca1 ?_)
    generalize hS:syncM m1 newN=S
    obtain ⟨m2,e2⟩:=S
    dsimp only
    refine xuse [Blk b (rlogCells p nn lo safe s),RefDev p m2] ?_
    by_cases h2:e2=0
    · subst h2
      rw [if_neg (by simp)]
      refine xjoin (xift rfl (xnil (xget (h:=?_))))
      refine xcl (rRename_spec p m2 newN headN) rdb ?_
      rintro ⟨t,_⟩ _ ⟨ht,rfl⟩
      simp only at ht;subst ht
      refine app1 (ca1 ?_)
      exact xuse [Blk b (rlogCells p nn lo safe s),RefDev p (renameM m2 newN headN).1] (xret ⟨Iff.rfl,rfl⟩)
    · rw [if_pos h2]
      refine xjoin (xiff (by simpa using h2) ?_)
      exact xret ⟨Iff.rfl,rfl⟩
  · rw [if_pos h1]
    refine xjoin (xiff (by simpa using h1) (xjoin (xiff (by simpa using h1) ?_)))
    exact xret ⟨Iff.rfl,rfl⟩
theorem each_drop {α β:Type}{R:α→β→HP}:∀ (k:Nat) {xs:List α}{ys:List β}{h:Frag},Each R xs ys h→Each R (xs.drop k) (ys.drop k) h
  | 0,xs,ys,h,hh=>hh
  | k+1,[],[],h,hh=>trivial
  | k+1,x::xs,[],h,hh=>hh.elim
  | k+1,[],y::ys,h,hh=>hh.elim
  | k+1,x::xs,y::ys,h,hh=>by
    obtain ⟨a,b,_,⟨c,d,pc,_,_,sc,_⟩,_,_,sb⟩:=hh
    exact each_drop k (pc.mono (sc.trans sb))
theorem rTrim14_spec (q p:Option Addr) (m:DM) (l:LM) (to:Int):Ct Pr F_ref14_Log_Trim [.pointer q,.int .i64 to,.int .i64 1] .one [.int .i64] [RLogObj q p l,RefDev p m] emp
    (fun t Bs=>Bs=[RLogObj q p (trimL m l to 1).2.1,RefDev p (trimL m l to 1).1]):=by
  refine spec1 c_ref14_Log_Trim fun B _=>?_
  unfold ref14_Log_Trim
  refine xfact 0 (P1:=RLogObj q p l) (fun g hg=>hg.1) fun hi0=>?_
  have hinv:=trim_inv hi0 m to 1
  unfold trimL at hinv ⊢
  dsimp only at hinv ⊢
  refine xrlog 0 fun hi b nn s cs hq hn hf hs=>?_
  subst hq
  have back:∀ {As:List HP}(m':DM) {G F':List HP} [q:Split [Blk b (rlogCells p nn l.lo l.safe s),Ar RSG s cs,Each RSegR cs l.segs] As G] [q2:Find (RefDev p m') G F'] {x:Int},Ent B As (Ret B (ss:=[.int .i64]) (fun t Bs=>Bs=[RLogObj (some ⟨b,0,none⟩) p l,RefDev p m']) (x,())):=by
    intro As m' G F' q q2 x
    refine xrlog_back (p:=p) (l:=l) b nn s cs hi hn ?_
    exact xuse [RLogObj (some ⟨b,0,none⟩) p l,RefDev p m'] (xret rfl)
  refine xnil (xget (h:=?_))
  refine xoff 3 (xif (fun hd=>?_) (fun hd=>?_))
  · rw [if_pos hd]
    exact back m
  rw [hd,if_neg (by decide)] at hinv ⊢
  have hfew:=hi.few
  have hlen:=hf.len
  generalize hL:l.segs.take (l.segs.length - (max (1:Int) 1).toNat)=L
  have hdr:dropsL l to 1=(L.takeWhile fun s=>decide (s.next≤min to l.safe)).length:=by unfold dropsL;rw [hL]
  have hget:∀ k:Nat,L[k]? = if k<cs.length - 1 then l.segs[k]? else none:=fun k=>by
    rw [←hL,List.getElem?_take,show (max (1:Int) 1).toNat=1 from rfl,hlen]
  have hLl:L.length≤cs.length - 1:=by rw [←hL,List.length_take,show (max (1:Int) 1).toNat=1 from rfl];omega
  have hdl:dropsL l to 1≤cs.length - 1:=by rw [hdr];exact Nat.le_trans (List.takeWhile_sublist _).length_le hLl
  refine xuse [Blk b (rlogCells p nn l.lo l.safe s),Ar RSG s cs,Each RSegR cs l.segs,RefDev p m] ?_
  refine xnil (xget (h:=?_))
  refine xloop2 (fun n (first:Int) (x:Int) As'=>∃ k:Nat,x=(k:Int)∧n=cs.length - k∧k≤cs.length∧first=l.lo+(cumL (l.segs.take k):Int)∧k≤dropsL l to 1∧As'=[Blk b (rlogCells p nn l.lo l.safe s),Ar RSG s cs,Each RSegR cs l.segs,RefDev p m]) cs.length ⟨0,rfl,rfl,by omega,by simp [cumL],by omega,rfl⟩ ?_
  rintro n _ _ _ K ⟨k,rfl,rfl,hk,rfl,hkd,rfl⟩ hK
  have hcum:=cum_lt hi (k:=k) (by omega)
  refine xdraw (xjoin1 (fun(c:Bool) As'=>(c=true→k+1≤dropsL l to 1∧k+1≤cs.length)∧(c=false→dropsL l to 1=k)∧As'=[Blk b (rlogCells p nn l.lo l.safe s),Ar RSG s cs,Each RSegR cs l.segs,RefDev p m]) (fun K1 hK1=>?_) ?_)
  · have no:¬ k<cs.length - 1→Ent B [Blk b (rlogCells p nn l.lo l.safe s),Ar RSG s cs,Each RSegR cs l.segs,RefDev p m] (K1 false):=fun h=>by
      refine hK1 _ _ ⟨fun e=>(by cases e),fun _=>?_,rfl⟩
      rw [hdr] at hkd ⊢
      exact tw_stop hkd fun y hy=>by rw [hget,if_neg h] at hy;cases hy
    refine xnil (xget (h:=?_))
    rw [wrap_succ k (by omega)]
    refine xif_dec (fun h=>?_) (fun h=>xiff rfl (xiff rfl (no (by omega))))
    refine xnil (xget (h:=?_))
    rw [wrap_id ((s.n:Int) - k) (by omega) (by omega)]
    refine xif_dec (fun h'=>?_) (fun h'=>xiff rfl (no (by omega)))
    have hlt:k<cs.length - 1:=by omega
    obtain ⟨c,hc⟩:∃ c,cs[k]? = some c:=⟨_,List.getElem?_eq_getElem (by omega)⟩
    obtain ⟨sg,hsg⟩:∃ sg,l.segs[k]? = some sg:=⟨_,List.getElem?_eq_getElem (by omega)⟩
    obtain ⟨g1,g2,g3,g4⟩:=hf.each k c sg hc hsg
    obtain ⟨b1,b2,b3,b4,b5⟩:=hi.segs sg (List.mem_of_getElem? hsg)
    have hLk:L[k]? = some sg:=by rw [hget,if_pos hlt,hsg]
    have hfst:=at_first hi k sg hsg
    have hnx:IntKind.i64.wrap (l.lo+(cumL (l.segs.take k):Int)+(c.2.2.n:Int))=sg.next:=by
      rw [wrap_id _ (by omega) (by omega),←hfst,g3];rfl
    have fin:∀ x:Bool,x=decide (sg.next≤min to l.safe)→Ent B [Blk b (rlogCells p nn l.lo l.safe s),Ar RSG s cs,Each RSegR cs l.segs,RefDev p m] (K1 x):=fun x hx=>by
      rw [hdr] at hkd hK1
      refine hK1 _ _ ⟨fun e=>⟨tw_step hkd hLk (by rw [←hx];exact e),by omega⟩,fun e=>tw_stop hkd fun y hy=>?_,rfl⟩
      rw [hLk] at hy
      obtain rfl:=Option.some.inj hy
      rw [←hx];exact e
    refine xnil (xget (h:=?_))
    refine xidxn (E:=RSG) (xs:=cs) (s:=s) (h1:=by omega) (h:=fun _ _=>?_)
    refine xgetEj (E:=RSG) (xs:=cs) hc (h:=?_)
    rw [hnx]
    refine xif_dec (fun h2=>?_) (fun h2=>?_)
    · refine xnil (xget (h:=?_))
      refine xidxn (E:=RSG) (xs:=cs) (s:=s) (h1:=by omega) (h:=fun _ _=>?_)
      refine xgetEj (E:=RSG) (xs:=cs) hc (h:=?_)
      refine xnil (xget (h:=?_))
      rw [hnx]
      refine fin _ ?_
      rw [Bool.eq_iff_iff];simp only [decide_eq_true_eq];omega
    · refine fin _ ?_
      have:¬ sg.next≤min to l.safe:=by omega
      simp [this]
  rintro c _ ⟨h1,h2,rfl⟩
  refine xif (fun h=>?_) (fun h=>?_)
  · obtain ⟨q1,q2⟩:=h1 h
    obtain ⟨c,hc⟩:∃ c,cs[k]? = some c:=⟨_,List.getElem?_eq_getElem (by omega)⟩
    obtain ⟨sg,hsg⟩:∃ sg,l.segs[k]? = some sg:=⟨_,List.getElem?_eq_getElem (by omega)⟩
    obtain ⟨g1,g2,g3,g4⟩:=hf.each k c sg hc hsg
    have hcs:=cumL_succ hsg
    have hcum2:=cum_lt hi (k:=k+1) (by omega)
    refine xnil (xget (h:=?_))
    refine xidxn (E:=RSG) (xs:=cs) (s:=s) (h1:=by omega) (h:=fun _ _=>?_)
    refine xgetEj (E:=RSG) (xs:=cs) hc (h:=?_)
    rw [wrap_succ k (by omega),wrap_id _ (by omega) (by omega)]
    exact hK (cs.length - (k+1)) _ _ _ (by omega) ⟨k+1,rfl,rfl,by omega,by omega,q1,rfl⟩
  have hD:=h2 h
  rw [hD] at hinv hdl ⊢
  clear hK h1 h2 hkd hdr hget hLl hL
  refine xif (fun h=>?_) (fun h=>?_)
  · have h':k=0:=by have:=eq_of_beq h;omega
    rw [if_pos h']
    exact back m
  have h':k≠0:=fun e=>by rw [e] at h;simp at h
  rw [if_neg h'] at hinv ⊢
  have hk2:k<l.segs.length:=by omega
  obtain ⟨sg,hsg⟩:∃ sg,l.segs[k]? = some sg:=⟨_,List.getElem?_eq_getElem hk2⟩
  obtain ⟨c,hc⟩:∃ c,cs[k]? = some c:=⟨_,List.getElem?_eq_getElem (by omega)⟩
  rw [hsg] at hinv ⊢
  simp only [Option.getD_some] at hinv ⊢
  obtain ⟨g1,g2,g3,g4⟩:=hf.each k c sg hc hsg
  obtain ⟨b1,b2,b3,b4,b5⟩:=hi.segs sg (List.mem_of_getElem? hsg)
  have hfst:=at_first hi k sg hsg
  rw [←hfst]
  refine xnil (xget (h:=?_))
  refine xidxn (E:=RSG) (xs:=cs) (s:=s) (h1:=by omega) (h:=fun _ _=>?_)
  refine xgetE (E:=RSG) (xs:=cs) hc (h:=?_)
  rw [g1]
  refine xcl (rlay_raw b p m nn l.lo l.safe s sg hd ⟨by omega,by omega⟩ ⟨by omega,by omega⟩) rdb ?_
  rintro ⟨t,_⟩ _ ⟨ht,rfl⟩
  simp only at ht
  refine app2 (ca1 (xif (fun h=>?_) (fun h=>?_)))
  · have h3:t≠0:=by simpa using h
    rw [if_pos (fun e=>h3 (ht.2 e))]
    exact back (layM m sg).1
  have h5:¬ (layM m sg).2≠0:=fun e=>e (ht.1 (by simpa using h))
  rw [if_neg h5] at hinv ⊢
  generalize (layM m sg).1=m1 at *
  refine xlen (E:=RSG) (xs:=cs) s fun hsn0 hsc0=>?_
  have htk:(l.segs.take k).length=k:=by simp;omega
  refine xuse [Blk b (rlogCells p nn l.lo l.safe s),Ar RSG s cs,Each RSegR cs l.segs,RefDev p m1] ?_
  refine xloop1 (fun n (x:Int) As'=>∃ (j:Nat) (m2:DM),x=(j:Int)∧n=k - j∧j≤k∧goneM (l.segs.take k) m1=goneM ((l.segs.take k).drop j) m2∧As'=[Blk b (rlogCells p nn l.lo l.safe s),Ar RSG s cs,Each RSegR cs l.segs,RefDev p m2]) k ⟨0,m1,rfl,rfl,by omega,rfl,rfl⟩ ?_
  rintro n _ _ K ⟨j,m2,rfl,rfl,hj,hg,rfl⟩ hK
  refine xif_dec (fun h6=>?_) (fun h6=>?_)
  · have hjk:j<k:=by
      have h6:(j:Int)<(k:Int):=h6
      omega
    obtain ⟨sj,hsj⟩:∃ x,l.segs[j]? = some x:=⟨_,List.getElem?_eq_getElem (by omega)⟩
    obtain ⟨cj,hcj⟩:∃ x,cs[j]? = some x:=⟨_,List.getElem?_eq_getElem (by omega)⟩
    obtain ⟨q1,q2,q3,q4⟩:=hf.each j cj sj hcj hsj
    obtain ⟨r1,r2,r3,r4,r5⟩:=hi.segs sj (List.mem_of_getElem? hsj)
    have hdrop:(l.segs.take k).drop j=sj::(l.segs.take k).drop (j+1):=by
      rw [List.drop_eq_getElem_cons (by omega)]
      have:(l.segs.take k)[j]? = some sj:=by rw [List.getElem?_take_of_lt hjk];exact hsj
      rw [List.getElem?_eq_getElem (by omega)] at this
      rw [Option.some.inj this]
    rw [hdrop,goneM] at hg
    refine xdraw (xnil (xget (h:=xnil (xget (h:=?_)))))
    refine xidxn (E:=RSG) (xs:=cs) (s:=s) (h1:=by omega) (h:=fun _ _=>?_)
    refine xgetE (E:=RSG) (xs:=cs) hcj (h:=?_)
    rw [q1]
    refine xname (by omega) (by omega) (xchk (h:=?_))
    refine xcl (rRemove_spec p m2 (fN sj.n)) rdb ?_
    rintro ⟨t,_⟩ _ ⟨ht,rfl⟩
    simp only at ht;subst ht
    refine app1 (ca1 (xif (fun h7=>?_) (fun h7=>?_)))
    · have h7:(removeM m2 (fN sj.n)).2≠0:=by simpa using h7
      rw [if_pos h7] at hg
      rw [hg,if_pos h7]
      exact back (removeM m2 (fN sj.n)).1
    · have h7:¬ (removeM m2 (fN sj.n)).2≠0:=by simpa using h7
      rw [if_neg h7] at hg
      rw [wrap_succ j (by omega)]
      exact xuse [Blk b (rlogCells p nn l.lo l.safe s),Ar RSG s cs,Each RSegR cs l.segs,RefDev p (removeM m2 (fN sj.n)).1] (hK _ _ _ (by omega) ⟨j+1,_,rfl,rfl,by omega,hg,rfl⟩)
  · obtain rfl:j=k:=by
      have h6:¬ (j:Int)<(k:Int):=h6
      omega
    rw [List.drop_of_length_le (by omega),goneM] at hg
    rw [hg] at hinv ⊢
    simp only [ne_eq,not_true_eq_false,if_false] at hinv ⊢
    refine xnil (xget (h:=?_))
    refine xidxn (E:=RSG) (xs:=cs) (s:=s) (h1:=by omega) (h:=fun _ _=>?_)
    refine xgetE (E:=RSG) (xs:=cs) hc (h:=?_)
    refine xnil (xset (h:=xnil (xset (h:=xnil (xget (h:=?_))))))
    refine xslc (by omega) (by omega) (by omega) (by omega) ?_
    simp only [Int.toNat_natCast]
    refine xnil (xset (h:=?_))
    have hlo:({ l with segs:=l.segs.drop j }:LM).lo=sg.first:=by
      show (match l.segs.drop j with | []=>l.first | s::_=>s.first)=_
      rw [List.drop_eq_getElem_cons hk2]
      have:=List.getElem?_eq_getElem hk2
      rw [hsg] at this
      rw [←Option.some.inj this]
    refine xfold [Blk b (rlogCells p c.1 sg.first l.safe (s.cut j s.n s.c 3)),Ar RSG s cs,Each RSegR cs l.segs] (RLogObj (some ⟨b,0,none⟩) p { l with segs:=l.segs.drop j }) (fun g hg=>?_) ?_
    · refine ⟨hinv,b,c.1,s.cut j s.n s.c 3,cs.drop j,rfl,fun e=>?_,?_⟩
      · have e':l.segs.drop j=[]:=e
        have:=congrArg List.length e'
        rw [List.length_drop,List.length_nil] at this
        omega
      · rw [hlo]
        refine star_cons (l:=[Ar RSG s cs,Each RSegR cs l.segs]) (l':=[Ar RSG (s.cut j s.n s.c 3) (cs.drop j),Each RSegR (cs.drop j) (l.segs.drop j)]) (fun g hg=>?_) hg
        obtain ⟨a,e,⟨zs,hz⟩,⟨a2,e2,pe,_,d2,sa2,sb2⟩,d,sa,sb⟩:=hg
        exact ⟨a,e,⟨zs,Ars.dropc hz j (by omega)⟩,⟨a2,e2,each_drop j pe,trivial,d2,sa2,sb2⟩,d,sa,sb⟩
    exact xuse [RLogObj (some ⟨b,0,none⟩) p { l with segs:=l.segs.drop j },RefDev p m2] (xret rfl)
end Go.Cx
