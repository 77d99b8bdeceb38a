/-
  The document's log in segments: its looks.
  The document's log in segments: what it holds; the next number; Sync; Get.
  The document's log in segments: Get.
  The document's log in segments: Append.
  The document's log in segments, opened over a new device.
  A log is trimmed.
  The document's log in segments: Trim.
-/
import Derived.Test.YtffoldlhonbafaaGreatDoorRD
import Derived.Test.YtffoldlhonbafaaGreatDoorS1
import Derived.Test.YtffoldlhonbafaaGreatDoorT1
import Derived.Test.YtffoldlhonbafaaGreatDoorHY
namespace Go.Cx
open Go Go.Cf
set_option linter.unusedVariables false
set_option maxRecDepth 100000
variable {B:Base}{As F:List HP}{α:Type}
theorem dec_step (u:Nat) (h:10≤u):Lib.decDigits u=Lib.decDigits (u / 10)++[UInt8.ofNat (48+u % 10)]:=by
  rw [Lib.decDigits,dif_neg (by omega)]
theorem dec_one (u:Nat) (h:u<10):Lib.decDigits u=[UInt8.ofNat (48+u)]:=by
  rw [Lib.decDigits,dif_pos h]
def restD (m:Nat):List UInt8:=if m=0 then [] else Lib.decDigits m
theorem rest_step (m:Nat) (h:0<m):restD m=restD (m / 10)++[UInt8.ofNat (48+m % 10)]:=by
  unfold restD
  rw [if_neg (by omega)]
  by_cases h1:m<10
  · rw [if_pos (by omega),dec_one m h1,Nat.mod_eq_of_lt h1];rfl
  · rw [if_neg (by omega),dec_step m (by omega)]
theorem rest_len (m:Nat) (h:m≤4398046511104):(restD m).length≤21:=by
  unfold restD
  split
  · simp
  · have:=itoa_len (n:=(m:Int)) (by omega) (by omega)
    unfold Lib.itoa at this
    rw [if_neg (by omega),Int.toNat_natCast] at this
    exact this
theorem digit_u8 (m:Nat):IntKind.u8.wrap (IntKind.i64.wrap (48+(m:Int).tmod 10))=((UInt8.ofNat (48+m % 10)).toNat:Int):=by
  have h1:(m:Int).tmod 10=((m % 10:Nat):Int):=by rw [Int.tmod_eq_emod_of_nonneg (by omega)];omega
  rw [h1,wrap_id _ (by omega) (by omega)]
  have h2:(UInt8.ofNat (48+m % 10)).toNat=48+m % 10:=by
    rw [UInt8.toNat_ofNat'];exact Nat.mod_eq_of_lt (by omega)
  rw [h2]
  have e1:(2 ^ IntKind.u8.bits:Int)=256:=by decide
  have e3:IntKind.u8.signed=false:=rfl
  simp only [IntKind.wrap,e1,e3,Bool.false_and]
  simp;omega
theorem rDigits_spec (n:Int) (h0:1≤n) (h1:n≤4398046511104):Ct Pr F_ref14_Digits [.int .i64 n] .one [.str] [] emp (fun t Bs=>t.1=BA (Lib.itoa n)∧Bs=[]):=by
  refine spec1 c_ref14_Digits fun B _=>?_
  obtain ⟨N,rfl⟩:=Int.eq_ofNat_of_zero_le (by omega:0≤n)
  have hN:restD N=Lib.itoa (N:Int):=by
    unfold restD Lib.itoa
    rw [if_neg (by omega),if_neg (by omega),Int.toNat_natCast]
  rw [←hN]
  unfold ref14_Digits
  refine xloop2 (fun n (s:ByteArray) (x:Int) As'=>∃ (m:Nat) (tl:List UInt8),x=(m:Int)∧m=n∧m≤4398046511104∧s=BA tl∧restD N=restD m++tl∧tl.length≤21∧As'=[]) N ⟨N,[],rfl,rfl,by omega,rfl,by simp,by simp,rfl⟩ ?_
  rintro n _ _ _ K ⟨m,tl,rfl,rfl,hm,rfl,hr,htl,rfl⟩ hK
  refine xif_dec (fun h=>?_) (fun h=>?_)
  · have hst:=rest_step m (by omega)
    rw [hst,List.append_assoc] at hr
    have hl:=rest_len N (by omega)
    refine xasrt (by decide) (xnew fun b=>?_)
    rw [digit_u8]
    refine xfold1 0 (Q:=Ar U8 ⟨some ⟨b,0,none⟩,1,1⟩ [UInt8.ofNat (48+m % 10)]) (fun g hg=>⟨[],blk_ar [UInt8.ofNat (48+m % 10)] 1 rfl rfl hg⟩) ?_
    refine xstr (s:=⟨some ⟨b,0,none⟩,1,1⟩) (xs:=[UInt8.ofNat (48+m % 10)]) (e:=T_uint8) (by simp) (by kernel_rfl) (by kernel_rfl) (by kernel_rfl) ?_
    have htl2:(UInt8.ofNat (48+m % 10)::tl).length≤21:=by
      have:=congrArg List.length hr
      simp only [List.length_append,List.length_cons,List.length_nil] at this ⊢
      omega
    have hba:(⟨[UInt8.ofNat (48+m % 10)].toArray⟩:ByteArray)=BA [UInt8.ofNat (48+m % 10)]:=rfl
    rw [hba]
    refine xasrt ?_ (xasrt (by decide) ?_)
    · rw [BA_size,BA_size]
      simp only [List.length_cons,List.length_nil] at htl2 ⊢
      omega
    have hd:(m:Int).tdiv 10=((m / 10:Nat):Int):=by rw [Int.tdiv_eq_ediv_of_nonneg (by omega)];omega
    rw [hd,wrap_id _ (by omega) (by omega),BA_app]
    refine xuse [] (hK _ _ _ _ (by omega) ⟨m / 10,[UInt8.ofNat (48+m % 10)]++tl,rfl,rfl,by omega,rfl,hr,htl2,rfl⟩)
  · obtain rfl:m=0:=by omega
    exact xret ⟨by rw [hr];rfl,rfl⟩
theorem rName_spec (n:Int) (h0:1≤n) (h1:n≤4398046511104):Ct Pr F_ref14_Name [.int .i64 n] .one [.str] [] emp (fun t Bs=>t.1=fN n∧Bs=[]):=by
  refine spec1 c_ref14_Name fun B hr=>?_
  unfold ref14_Name
  refine xcall0 (rDigits_spec n h0 h1) rdb ?_
  rintro ⟨t,_⟩ _ ⟨ht,rfl⟩
  obtain rfl:t=BA (Lib.itoa n):=ht
  have hl:=itoa_len (n:=n) (by omega) (by omega)
  refine app0 (ca1 (xasrt ?_ (xret ⟨?_,rfl⟩)))
  · rw [BA_size,show (⟨#[108,111,103,45]⟩:ByteArray).size=4 from rfl];omega
  · rw [show (⟨#[108,111,103,45]⟩:ByteArray)=BA preL from rfl,BA_app];rfl
theorem xname {n:Int}{K:ByteArray→WP}(h0:1≤n) (h1:n≤4398046511104) (h:Ent B As (K (fN n))):Ent B As (XCall Pr F_ref14_Name [.int .i64 n] .one [.str] K):=by
  refine xcall0 (rName_spec n h0 h1) rdb ?_
  rintro ⟨t,_⟩ _ ⟨ht,rfl⟩
  obtain rfl:t=fN n:=ht
  exact app0 (ca1 h)
end Go.Cx
namespace Go.Cx
open Go Go.Cf
set_option linter.unusedVariables false
set_option maxRecDepth 100000
variable {B:Base}{As F:List HP}{α:Type}
abbrev CR:=Int×Int×Sl
def RSG:Enc CR:=⟨fun x=>[.int .i64 x.1,.int .i64 x.2.1,x.2.2.v],3,fun _=>rfl,fun x v h=>by simp at h;rcases h with rfl | rfl | rfl<;>rfl,by decide,(0,0,⟨none,0,0⟩)⟩
def RSegR (c:CR) (s:Sg):HP:=fun h=>c.1=s.n∧c.2.1=s.size∧ORows c.2.2 s.ps h
abbrev rlogCells (p:Option Addr) (n lo safe:Int) (s:Sl):List Value:=[.pointer p,.int .i64 n,.int .i64 lo,s.v,.int .i64 safe]
def RLogObj (q p:Option Addr) (l:LM):HP:=fun h=>LInv l∧∃ b n s cs,q=some ⟨b,0,none⟩∧(l.segs=[]→n=l.n)∧star [Blk b (rlogCells p n l.lo l.safe s),Ar RSG s cs,Each RSegR cs l.segs] h
structure RF (cs:List CR) (ss:List Sg):Prop where
  len:cs.length=ss.length
  each:∀ (i:Nat) (c:CR) (s:Sg),cs[i]? = some c→ss[i]? = some s→c.1=s.n∧c.2.1=s.size∧c.2.2.n=s.ps.length∧c.2.2.n≤c.2.2.c
theorem rf_of {cs:List CR}{ss:List Sg}{g:Frag}(h:Each RSegR cs ss g):RF cs ss:=
  ⟨h.length,fun i c s a b=>each_read (R:=RSegR) (S:=fun c s _=>c.1=s.n∧c.2.1=s.size∧c.2.2.n=s.ps.length∧c.2.2.n≤c.2.2.c) (fun _ _ _ _ h _=>h) (fun x y g ⟨h1,h2,h4⟩=>⟨h1,h2,orows_len h4⟩) h a b⟩
theorem xrlog (i:Nat) {q p:Option Addr}{l:LM}{F:List HP} [r:Pick i As (RLogObj q p l) F] {φ:WP}
    (k:LInv l→∀ b n s cs,q=some ⟨b,0,none⟩→(l.segs=[]→n=l.n)→RF cs l.segs→s.n=cs.length→Ent B (Blk b (rlogCells p n l.lo l.safe s)::Ar RSG s cs::Each RSegR cs l.segs::F) φ):Ent B As φ:=by
  refine Ent.perm r.perm ?_
  intro w hw
  obtain ⟨g,⟨a,c,⟨hi,b,n,s,cs,hp,hn,pa⟩,pc,d,sa,sc⟩,hm,hu⟩:=hw
  have hl:RF cs l.segs∧s.n=cs.length:=by
    obtain ⟨_,_,_,⟨_,_,⟨_,par⟩,⟨_,_,pe,_⟩,_⟩,_⟩:=pa
    exact ⟨rf_of pe,par.1.symm⟩
  exact k hi b n s cs hp hn hl.1 hl.2 w ⟨g,(star_append [_,_,_] F).2 ⟨a,c,pa,pc,d,sa,sc⟩,hm,hu⟩
theorem xrlog_back (b:Nat) (n:Int) (s:Sl) (cs:List CR) {p:Option Addr}{l:LM}{G:List HP} [q:Split [Blk b (rlogCells p n l.lo l.safe s),Ar RSG s cs,Each RSegR cs l.segs] As G] {φ:WP}
    (hi:LInv l) (hn:l.segs=[]→n=l.n) (k:Ent B (RLogObj (some ⟨b,0,none⟩) p l::G) φ):Ent B As φ:=
  xfold [Blk b (rlogCells p n l.lo l.safe s),Ar RSG s cs,Each RSegR cs l.segs] (RLogObj (some ⟨b,0,none⟩) p l) (fun g hg=>⟨hi,b,n,s,cs,rfl,hn,hg⟩) k
def cumL:List Sg→Nat
  | []=>0
  | s::ss=>s.ps.length+cumL ss
theorem cumL_app:∀ a b:List Sg,cumL (a++b)=cumL a+cumL b
  | [],b=>by simp [cumL]
  | s::a,b=>by simp only [List.cons_append,cumL,cumL_app a b];omega
theorem cumL_succ {ss:List Sg}{k:Nat}{s:Sg}(h:ss[k]? = some s):cumL (ss.take (k+1))=cumL (ss.take k)+s.ps.length:=by
  rw [List.take_add_one,h,cumL_app];simp [cumL]
theorem at_first {l:LM}(hi:LInv l):∀ (k:Nat) (s:Sg),l.segs[k]? = some s→s.first=l.lo+(cumL (l.segs.take k):Int)
  | 0,s,h=>by
    have:l.lo=s.first:=by
      unfold LM.lo
      cases e:l.segs with
      | nil=>rw [e] at h;simp at h
      | cons y r => rw [e] at h; obtain rfl : y = s := by simpa using h
                    rfl
    simp [cumL,this]
  | k+1,s,h=>by
    obtain ⟨y,hy⟩:∃ y,l.segs[k]? = some y:=⟨_,List.getElem?_eq_getElem (by have:=(List.getElem?_eq_some_iff.1 h).1;omega)⟩
    have e:=hi.chain k y s hy h
    have:=at_first hi k y hy
    rw [cumL_succ hy,e]
    simp only [Sg.next];omega
theorem next_cum {l:LM}(hi:LInv l):l.next=l.lo+(cumL l.segs:Int):=by
  unfold LM.next LM.cur
  cases e:l.segs.getLast? with
  | none=>
    have:l.segs=[]:=List.getLast?_eq_none_iff.1 e
    unfold LM.lo
    rw [this];simp [cumL]
  | some s=>
    have h1:=getLast_get e
    have h2:=at_first hi _ _ h1
    have h3:=cumL_succ h1
    have h4:=(List.getElem?_eq_some_iff.1 h1).1
    rw [show l.segs.length - 1+1=l.segs.length by omega,List.take_length] at h3
    simp only [Sg.next];omega
theorem cum_lt {l:LM}(hi:LInv l) {k:Nat}(hk:k≤l.segs.length):0≤l.lo+(cumL (l.segs.take k):Int)∧l.lo+(cumL (l.segs.take k):Int)≤4398046511104:=by
  by_cases h:k<l.segs.length
  · have hg:=List.getElem?_eq_getElem h
    have:=at_first hi k _ hg
    obtain ⟨_,h2,_⟩:=hi.segs _ (List.getElem_mem h)
    omega
  · rw [List.take_of_length_le (by omega),←next_cum hi]
    have:=hi.next
    omega
theorem rNext_raw (b:Nat) (p:Option Addr) (n:Int) (l:LM) (s:Sl) (cs:List CR) (hs:s.n=cs.length) (hf:RF cs l.segs) (hi:LInv l):Ct Pr F_ref14_Log_Next [.pointer (some ⟨b,0,none⟩)] .one [.int .i64] [Blk b (rlogCells p n l.lo l.safe s),Ar RSG s cs] emp
    (fun t Bs=>t.1=l.next∧Bs=[Blk b (rlogCells p n l.lo l.safe s),Ar RSG s cs]):=by
  refine spec1 c_ref14_Log_Next fun B _=>?_
  unfold ref14_Log_Next
  have hlen:=hf.len
  have hfew:=hi.few
  refine xnil (xget (h:=?_))
  refine xloop2 (fun m (n1:Int) (i:Int) As'=>∃ k:Nat,i=(k:Int)∧m=cs.length - k∧k≤cs.length∧n1=l.lo+(cumL (l.segs.take k):Int)∧As'=[Blk b (rlogCells p n l.lo l.safe s),Ar RSG s cs]) cs.length ⟨0,rfl,rfl,by omega,by simp [cumL],rfl⟩ ?_
  rintro m _ _ _ K ⟨k,rfl,rfl,hk,rfl,rfl⟩ hK
  refine xnil (xget (h:=xif_dec (fun h=>?_) (fun h=>?_)))
  · have hlt:k<cs.length:=by omega
    obtain ⟨c,hc⟩:∃ c,cs[k]? = some c:=⟨_,List.getElem?_eq_getElem hlt⟩
    obtain ⟨sg,hsg⟩:∃ sg,l.segs[k]? = some sg:=⟨_,List.getElem?_eq_getElem (by omega)⟩
    obtain ⟨g1,g2,g3,g4⟩:=hf.each k c sg hc hsg
    have hb1:=cum_lt hi (k:=k) (by omega)
    have hb2:=cum_lt hi (k:=k+1) (by omega)
    have hcs:=cumL_succ hsg
    refine xnil (xget (h:=?_))
    refine xidxn (E:=RSG) (xs:=cs) (s:=s) (h1:=hlt) (h:=fun _ _=>?_)
    refine xgetEj (E:=RSG) (xs:=cs) hc (h:=?_)
    rw [wrap_succ k (by omega),wrap_id _ (by omega) (by omega)]
    exact hK _ _ _ _ (by omega) ⟨k+1,rfl,rfl,by omega,by omega,rfl⟩
  · refine xret ⟨?_,rfl⟩
    rw [List.take_of_length_le (by omega),←next_cum hi]
theorem xoff (i:Nat) {q:Option Addr}{m:DM}{F:List HP} [r:Pick i As (RefDev q m) F] {K:Bool→WP}(h:Ent B (RefDev q m::F) (K m.down)):Ent B As (XNil q fun a=>XGet .bool (a.add 2) fun(c:Bool)=>K c):=by
  refine xrdev i fun hi b s cs hp sf hn=>?_
  subst hp
  refine xnil (xget (h:=?_))
  exact xrdev_back b s cs hi h
theorem rf_last {cs:List CR}{ss:List Sg}(h:RF cs ss) {s:Sg}(hs:ss.getLast? = some s):∃ c,cs[cs.length - 1]? = some c∧c.1=s.n∧c.2.1=s.size∧c.2.2.n=s.ps.length∧c.2.2.n≤c.2.2.c:=by
  have h1:=getLast_get hs
  have hlt:=(List.getElem?_eq_some_iff.1 h1).1
  have hc:=List.getElem?_eq_getElem (l:=cs) (i:=cs.length - 1) (by rw [h.len];exact hlt)
  exact ⟨_,hc,h.each _ _ _ hc (by rw [h.len];exact h1)⟩
theorem rSync14_spec (q p:Option Addr) (m:DM) (l:LM) (hn0:l.segs=[]→l.safe=l.next):Ct Pr F_ref14_Log_Sync [.pointer q] .one [.int .i64] [RLogObj q p l,RefDev p m] emp
    (fun t Bs=>t.1=(if (syncL m l).2.2=0 then 0 else 10)∧Bs=[RLogObj q p (syncL m l).2.1,RefDev p (syncL m l).1]):=by
  refine spec1 c_ref14_Log_Sync fun B _=>?_
  unfold ref14_Log_Sync
  refine xrlog 0 fun hi b n s cs hq hn hf hs=>?_
  subst hq
  refine xnil (xget (h:=?_))
  refine xoff 3 ?_
  refine xif (fun h=>?_) (fun h=>?_)
  · have e:syncL m l=(m,l,10):=by unfold syncL;rw [if_pos h]
    rw [e]
    refine xrlog_back (p:=p) (l:=l) b n s cs hi hn ?_
    exact xuse [RLogObj (some ⟨b,0,none⟩) p l,RefDev p m] (xret ⟨rfl,rfl⟩)
  refine xdraw (xnil (xget (h:=?_)))
  refine xcl (rNext_raw b p n l s cs hs hf hi) rdb ?_
  rintro ⟨t,_⟩ _ ⟨ht,rfl⟩
  simp only at ht;subst ht
  refine app2 (ca1 (xchk (h:=xif (fun h1=>?_) (fun h1=>?_))))
  · have h1:l.safe=l.next:=by simpa using h1
    have e:syncL m l=(m,l,0):=by unfold syncL;rw [if_neg (by rw [h];decide),if_pos h1]
    rw [e]
    refine xrlog_back (p:=p) (l:=l) b n s cs hi hn ?_
    exact xuse [RLogObj (some ⟨b,0,none⟩) p l,RefDev p m] (xret ⟨rfl,rfl⟩)
  have h1:¬ l.safe=l.next:=by simpa using h1
  have hne:l.segs≠[]:=fun e=>h1 (hn0 e)
  obtain ⟨sg,hc⟩:∃ sg,l.segs.getLast? = some sg:=⟨_,List.getLast?_eq_some_getLast hne⟩
  obtain ⟨c,g1,g2,g3,g4,g5⟩:=rf_last hf hc
  obtain ⟨k1,k2,k3,k4,_⟩:=hi.segs sg (List.mem_of_getLast? hc)
  have hlen:=hf.len
  have hfew:=hi.few
  have hpos:0<l.segs.length:=List.length_pos_iff.2 hne
  refine xdraw (xnil (xget (h:=xnil (xget (h:=xnil (xget (h:=?_)))))))
  rw [wrap_id _ (by omega) (by omega),show (s.n:Int) - 1=((cs.length - 1:Nat):Int) by omega]
  refine xidxn (E:=RSG) (xs:=cs) (s:=s) (h1:=by omega) (h:=fun _ _=>?_)
  refine xgetE (E:=RSG) (xs:=cs) g1 (h:=?_)
  rw [g2]
  refine xname (by omega) (by omega) (xchk (h:=?_))
  refine xcl (rSync_spec p m (fN sg.n)) rdb ?_
  rintro ⟨t,_⟩ _ ⟨ht,rfl⟩
  simp only at ht;subst ht
  have e:syncL m l=if (syncM m (fN sg.n)).2≠0 then ((syncM m (fN sg.n)).1,l,(syncM m (fN sg.n)).2) else ((syncM m (fN sg.n)).1,{ l with safe:=l.next },0):=by
    unfold syncL LM.cur;rw [if_neg (by rw [h];decide),if_neg h1,hc];rfl
  rw [e]
  refine app1 (ca1 (xif (fun h2=>?_) (fun h2=>?_)))
  · have h2:(syncM m (fN sg.n)).2≠0:=by simpa using h2
    rw [if_pos h2]
    refine xrlog_back (p:=p) (l:=l) b n s cs hi hn ?_
    exact xuse [RLogObj (some ⟨b,0,none⟩) p l,RefDev p (syncM m (fN sg.n)).1] (xret ⟨by simp only;rw [if_neg h2],rfl⟩)
  · have h2:¬ (syncM m (fN sg.n)).2≠0:=by simpa using h2
    rw [if_neg h2]
    refine xcl (rNext_raw b p n l s cs hs hf hi) rdb ?_
    rintro ⟨t,_⟩ _ ⟨ht,rfl⟩
    simp only at ht;subst ht
    refine app2 (ca1 (xnil (xset (h:=?_))))
    have hb:=hi.next
    refine xfold [Blk b (rlogCells p n l.lo l.next s),Ar RSG s cs,Each RSegR cs l.segs] (RLogObj (some ⟨b,0,none⟩) p { l with safe:=l.next }) (fun g hg=>⟨⟨hi.n,hi.first,hi.segs,hi.few,by simp only;omega,hi.chain⟩,b,n,s,cs,rfl,hn,hg⟩) ?_
    exact xuse [RLogObj (some ⟨b,0,none⟩) p { l with safe:=l.next },RefDev p (syncM m (fN sg.n)).1] (xret ⟨rfl,rfl⟩)
end Go.Cx
namespace Go.Cx
open Go Go.Cf
set_option linter.unusedVariables false
set_option maxRecDepth 100000
variable {B:Base}{As F:List HP}{α:Type}
theorem reach_self {R:CR→Sg→HP}{cs:List CR}{ss:List Sg}{k:Nat}{c:CR}{s:Sg}(hc:cs[k]? = some c) (hs:ss[k]? = some s) {g:Frag}(h:star [R c s,Each R (cs.eraseIdx k) (ss.eraseIdx k)] g):Each R cs ss g:=by
  have h1:=(List.getElem?_eq_some_iff.1 hc).1
  have h2:=(List.getElem?_eq_some_iff.1 hs).1
  have:=each_put h1 h2 h
  have e1:cs.set k c=cs:=by
    apply List.ext_getElem?
    intro j
    by_cases e:k=j
    · subst e;rw [List.getElem?_set_self h1,hc]
    · rw [List.getElem?_set_ne e]
  have e2:ss.set k s=ss:=by
    apply List.ext_getElem?
    intro j
    by_cases e:k=j
    · subst e;rw [List.getElem?_set_self h2,hs]
    · rw [List.getElem?_set_ne e]
  rw [e1,e2] at this
  exact this
theorem xrseg {cs:List CR}{ss:List Sg}{k:Nat}{c:CR}{s:Sg}{F:List HP}{φ:WP}(i:Nat) [q:Pick i As (Each RSegR cs ss) F] (hc:cs[k]? = some c) (hs:ss[k]? = some s)
    (h:∀ rs,Ent B (Ar SL c.2.2 rs::Each (Ar U8) rs s.ps::Each RSegR (cs.eraseIdx k) (ss.eraseIdx k)::F) φ):Ent B As φ:=by
  refine xopen i (fun Bs=>∃ rs,Bs=[Ar SL c.2.2 rs,Each (Ar U8) rs s.ps,Each RSegR (cs.eraseIdx k) (ss.eraseIdx k)]) (fun g hg=>?_) ?_
  · have:=each_pick hg hc hs
    obtain ⟨a,b,⟨h1,h2,rs,pa⟩,pb,d,sa,sb⟩:=this
    exact ⟨_,⟨rs,rfl⟩,(star_append [_,_] [_]).2 ⟨a,b,pa,pb,d,sa,sb⟩⟩
  · rintro _ ⟨rs,rfl⟩
    exact h rs
theorem rseg_fold {rs:List Sl}{c:CR}{s:Sg}(h1:c.1=s.n) (h3:c.2.1=s.size) {l:List HP}{g:Frag}(h:star (Ar SL c.2.2 rs::Each (Ar U8) rs s.ps::l) g):star (RSegR c s::l) g:=by
  obtain ⟨a,b,pa,pb,d,sa,sb⟩:=(star_append [Ar SL c.2.2 rs,Each (Ar U8) rs s.ps] l).1 h
  exact ⟨a,b,⟨h1,h3,rs,pa⟩,pb,d,sa,sb⟩
theorem rGet14_spec (q p:Option Addr) (l:LM) (n:Int):Ct Pr F_ref14_Log_Get [.pointer q,.int .i64 n] (.tup [none,none]) [.slice,.int .i64] [RLogObj q p l] emp
    (fun t Bs=>t.2.1=(getL l n).2∧Bs=[RLogObj q p l,Ar U8 t.1 (getL l n).1]):=by
  refine spec2 c_ref14_Log_Get fun B _=>?_
  unfold ref14_Log_Get
  refine xrlog 0 fun hi b nn s cs hq hn hf hs=>?_
  subst hq
  have hlen:=hf.len
  have hfew:=hi.few
  refine xnil (xget (h:=xif_dec (fun h=>?_) (fun h=>?_)))
  · have e:getL l n=([],31):=by unfold getL;rw [if_pos h]
    rw [e]
    refine xrlog_back (p:=p) (l:=l) b nn s cs hi hn ?_
    exact xnone U8 (xuse [RLogObj (some ⟨b,0,none⟩) p l,Ar U8 ⟨none,0,0⟩ []] (xret ⟨rfl,rfl⟩))
  have hg:getL l n=match l.segs.find? fun s=>decide (n<s.next) with
      | some s=>((s.ps[(n - s.first).toNat]?).getD [],0)
      | none=>([],6):=by unfold getL;rw [if_neg h];rfl
  have hnc:=next_cum hi
  have hnx:=hi.next
  refine xcl (rNext_raw b p nn l s cs hs hf hi) rdb ?_
  rintro ⟨t,_⟩ _ ⟨ht,rfl⟩
  simp only at ht;subst ht
  refine app2 (ca1 (xif_dec (fun h1=>?_) (fun h1=>?_)))
  · have hfind:(l.segs.find? fun s=>decide (n<s.next))=none:=by
      rw [List.find?_eq_none]
      intro y hy
      obtain ⟨j,hj⟩:=List.mem_iff_getElem?.1 hy
      have e1:=at_first hi j y hj
      have e2:=cumL_succ hj
      have e3:cumL l.segs=cumL (l.segs.take (j+1))+cumL (l.segs.drop (j+1)):=by rw [←cumL_app,List.take_append_drop]
      have e4:¬ n<y.next:=by simp only [Sg.next];omega
      simpa using e4
    rw [hfind] at hg
    simp only at hg
    rw [hg]
    refine xrlog_back (p:=p) (l:=l) b nn s cs hi hn ?_
    exact xnone U8 (xuse [RLogObj (some ⟨b,0,none⟩) p l,Ar U8 ⟨none,0,0⟩ []] (xret ⟨rfl,rfl⟩))
  have hlo:=cum_lt hi (k:=0) (by omega)
  simp only [List.take_zero,cumL] at hlo
  refine xnil (xget (h:=?_))
  rw [wrap_id _ (by omega) (by omega)]
  refine xuse [Blk b (rlogCells p nn l.lo l.safe s),Ar RSG s cs,Each RSegR cs l.segs] ?_
  refine xloop2 (fun m (n3:Int) (i:Int) As'=>∃ k:Nat,i=(k:Int)∧m=cs.length - k∧k≤cs.length∧n3=n - l.lo - (cumL (l.segs.take k):Int)∧0≤n3∧(∀ j y,j<k→l.segs[j]? = some y→decide (n<y.next)=false)∧As'=[Blk b (rlogCells p nn l.lo l.safe s),Ar RSG s cs,Each RSegR cs l.segs]) cs.length ⟨0,rfl,rfl,by omega,by simp [cumL],by omega,fun j y hj _=>by omega,rfl⟩ ?_
  rintro m _ _ _ K ⟨k,rfl,rfl,hk,rfl,h0,hno,rfl⟩ hK
  have hlt:k<cs.length:=by
    rcases Nat.lt_or_ge k cs.length with h2 | h2
    · exact h2
    · rw [List.take_of_length_le (by omega)] at h0;omega
  obtain ⟨c,hc⟩:∃ c,cs[k]? = some c:=⟨_,List.getElem?_eq_getElem hlt⟩
  obtain ⟨sg,hsg⟩:∃ sg,l.segs[k]? = some sg:=⟨_,List.getElem?_eq_getElem (by omega)⟩
  obtain ⟨g1,g2,g3,g4⟩:=hf.each k c sg hc hsg
  obtain ⟨b1,b2,b3,b4,b5⟩:=hi.segs sg (List.mem_of_getElem? hsg)
  have hcs:=cumL_succ hsg
  have hfst:=at_first hi k sg hsg
  refine xnil (xget (h:=?_))
  refine xidxn (E:=RSG) (xs:=cs) (s:=s) (h1:=hlt) (h:=fun _ _=>?_)
  refine xgetEj (E:=RSG) (xs:=cs) hc (h:=?_)
  refine xif_dec (fun h2=>?_) (fun h2=>?_)
  · refine xnil (xget (h:=?_))
    refine xidxn (E:=RSG) (xs:=cs) (s:=s) (h1:=hlt) (h:=fun _ _=>?_)
    refine xgetEj (E:=RSG) (xs:=cs) hc (h:=?_)
    rw [wrap_succ k (by omega),wrap_id _ (by omega) (by omega)]
    refine hK _ _ _ _ (by omega) ⟨k+1,rfl,rfl,by omega,by omega,by omega,fun j y hj hy=>?_,rfl⟩
    by_cases e:j<k
    · exact hno j y e hy
    · obtain rfl:j=k:=by omega
      rw [hsg] at hy
      obtain rfl:=Option.some.inj hy
      have e4:¬ n<sg.next:=by simp only [Sg.next];omega
      simpa using e4
  · have e4:n<sg.next:=by simp only [Sg.next];omega
    have hfind:=find_first hsg (p:=fun s=>decide (n<s.next)) (by simpa using e4) hno
    rw [hfind] at hg
    simp only at hg
    refine xnil (xget (h:=?_))
    refine xidxn (E:=RSG) (xs:=cs) (s:=s) (h1:=hlt) (h:=fun _ _=>?_)
    refine xgetEj (E:=RSG) (xs:=cs) hc (h:=?_)
    have hidx:(n - sg.first).toNat<sg.ps.length:=by omega
    rw [show n - l.lo - (cumL (l.segs.take k):Int)=(((n - sg.first).toNat:Nat):Int) by omega]
    generalize hj:(n - sg.first).toNat=j at *
    refine xuse [Each RSegR cs l.segs,Blk b (rlogCells p nn l.lo l.safe s),Ar RSG s cs] ?_
    refine xrseg (k:=k) 0 hc hsg fun rs=>?_
    refine xfact 1 (P1:=Each (Ar U8) rs sg.ps) (fun g hg=>hg.length) fun hrl=>?_
    obtain ⟨r,hr⟩:∃ r,rs[j]? = some r:=⟨_,List.getElem?_eq_getElem (by omega)⟩
    obtain ⟨y,hy⟩:∃ y,sg.ps[j]? = some y:=⟨_,List.getElem?_eq_getElem (by omega)⟩
    have hyl:=b5 y (List.mem_of_getElem? hy)
    rw [hy] at hg
    refine xidxn (E:=SL) (xs:=rs) (s:=c.2.2) (h1:=by omega) (h:=fun _ _=>?_)
    refine xgetE (E:=SL) (xs:=rs) hr (h:=?_)
    refine xcl (pre:=[]) (CopyBytes_spec r y (by omega)) (rds_pick 1 (fun g hg=>each_read (R:=Ar U8) (S:=fun sl row=>RAr U8 sl row) (fun _ _ _ _ h s=>h.mono s) (fun _ _ _ h=>h.read) hg hr hy) (fun _ _ h s=>h.mono s)) ?_
    rintro ⟨t,_⟩ _ rfl
    refine app1 (ca1 ?_)
    refine xfold [Ar SL c.2.2 rs,Each (Ar U8) rs sg.ps,Each RSegR (cs.eraseIdx k) (l.segs.eraseIdx k)] (Each RSegR cs l.segs) (fun g hg=>reach_self hc hsg (rseg_fold g1 g2 hg)) ?_
    refine xrlog_back (p:=p) (l:=l) b nn s cs hi hn ?_
    rw [hg]
    exact xuse [RLogObj (some ⟨b,0,none⟩) p l,Ar U8 t y] (xret ⟨rfl,rfl⟩)
end Go.Cx
namespace Go.Cx
open Go Go.Cf
set_option linter.unusedVariables false
set_option maxRecDepth 100000
variable {B:Base}{As F:List HP}{α:Type}
theorem addL_lo {ss:List Sg}{sg:Sg}(h:ss.getLast? = some sg) (p:List UInt8) {a:Sg}{r:List Sg}(e:ss=a::r):∃ a' r',addL ss p=a'::r'∧a'.first=a.first:=by
  rw [addL_set h]
  subst e
  cases r with
  | nil=>
    obtain rfl:a=sg:=by simpa using h
    exact ⟨_,_,rfl,rfl⟩
  | cons b r=>exact ⟨a,_,rfl,rfl⟩
end Go.Cx
namespace Go.Cx
open Go Go.Cf
set_option linter.unusedVariables false
set_option maxRecDepth 100000
variable {B:Base}{As F:List HP}{α:Type}
theorem rFind_spec (p:Option Addr) (m:DM) (nm:ByteArray):Ct Pr F_ref12_Device_Find [.pointer p,.string nm] .one [.int .i64] [RefDev p m] emp (fun t Bs=>t.1=fIdx m.fs nm∧Bs=[RefDev p m]):=by
  refine spec1 (φ:=XCall Pr F_ref12_Device_Find [.pointer p,.string nm] .one [.int .i64]) id fun B _=>?_
  refine xrdev 0 fun hi b s cs hp sf hn=>?_
  subst hp
  have hlen:=hi.len
  refine xcl (rFind_raw b m.room (leftR m) m.down s cs m.fs nm hi.sorted sf.names (by omega)) rdb ?_
  rintro ⟨r,_⟩ _ ⟨hr,rfl⟩
  exact app2 (ca1 (xrdev_back b s cs hi (xret ⟨hr,rfl⟩)))
end Go.Cx
namespace Go.Cx
open Go Go.Cf
set_option linter.unusedVariables false
set_option maxRecDepth 100000
section
variable {B:Base}{As:List HP}
theorem Rename_spec (p:Option Addr) (m:DM) (nm to:ByteArray):Ct Pr F_device_Device_Rename [.pointer p,.string nm,.string to] .one [.int .i64] [DevObj p m] emp
    (fun t Bs=>t.1=(renameM m nm to).2∧Bs=[DevObj p (renameM m nm to).1]):=by
  refine spec1 c_device_Device_Rename fun B _=>?_
  unfold device_Device_Rename
  refine xdev 0 fun hi b s cs hp sf hsn=>?_
  subst hp
  have hinv:=rename_inv hi nm to
  unfold renameM at hinv ⊢
  refine xcl (find_raw b s cs m nm hi.sorted sf hi.len) rdb ?_
  rintro ⟨r,c,_⟩ _ ⟨h1,h2,rfl⟩
  simp only at h1 h2
  subst h1 h2
  refine app2 (ca2 ?_)
  refine xcl (named_spec to) rdb ?_
  rintro ⟨c,_⟩ _ ⟨h1,rfl⟩
  simp only at h1
  subst h1
  refine app0 (ca1 (xif (fun hn=>?_) (fun hn=>?_)))
  · rw [if_pos hn]
    exact xdev_back b s cs hi (xret ⟨rfl,rfl⟩)
  rw [if_neg (by simpa using hn)] at hinv ⊢
  refine xnil (xget (h:=xif (fun hd=>?_) (fun hd=>xif (fun ht=>?_) (fun ht=>?_))))
  · rw [onFile_down hd]
    exact xdev_back b s cs hi (xret ⟨rfl,rfl⟩)
  · rw [onFile_none hd (by simpa using ht)]
    exact xdev_back b s cs hi (xret ⟨rfl,rfl⟩)
  have ht:thereL m.fs nm.toList=true:=by simpa using ht
  rw [onFile_ok hd ht] at hinv ⊢
  obtain ⟨c,f,hc,hf,hgd,e1,e2,e3,e4,hfb,_,_⟩:=on_file (p:=none) hi sf ht
  rw [hgd] at hinv ⊢
  have hlt:=(List.getElem?_eq_some_iff.1 hc).1
  have hltf:=(List.getElem?_eq_some_iff.1 hf).1
  have hlen:=hi.len
  have hcl:=sf.len
  obtain ⟨q1,q2⟩:=spendM_fs m
  refine xnil ?_
  refine xcl (spend_raw b s m hi.left.1 hi.left.2) rdb ?_
  rintro ⟨r,_⟩ _ ⟨hr,rfl⟩
  simp only at hr
  subst hr
  refine app1 (ca1 (xif (fun hsp=>?_) (fun hsp=>?_)))
  · rw [spent_no (by simpa using hsp)] at hinv ⊢
    exact xdev_put 0 0 0 b s cs (spendM m).1 hinv (fun _ h=>by rw [q1];exact h) (xret ⟨rfl,rfl⟩)
  rw [spent_ok (by simpa using hsp)] at hinv ⊢
  simp only [q1] at hinv ⊢
  have hse:=sorted_erase (i:=findL m.fs nm.toList) hi.sorted
  generalize findL m.fs nm.toList=i at *
  refine xnil (xget (h:=?_))
  refine xidxn (h1:=hlt) (h:=fun _ _=>?_)
  refine xgetE hc (h:=?_)
  refine xgetEj hc (h:=?_)
  refine xgetEj hc (h:=xnew fun b1=>xset (h:=xset (h:=xset (h:=xset (h:=xnil (xget (h:=?_)))))))
  rw [wrap_succ _ (by omega)]
  refine xcl (Delete_spec s cs i hlt (by omega)) rdb ?_
  rintro ⟨s',_⟩ _ rfl
  refine app1 (ca1 (xnil (xset (h:=?_))))
  refine xunf 3 [FileR c f,Each FileR (cs.eraseIdx i) (m.fs.eraseIdx i)] (fun g hg=>each_pick hg hc hf) (app2 ?_)
  refine xfact 1 (fun g hg=>sf_of hg) fun sf'=>?_
  have hlen':(m.fs.eraseIdx i).length≤64:=by rw [List.length_eraseIdx,if_pos hltf];omega
  have hcl':=sf'.len
  refine xcl (find_raw b s' (cs.eraseIdx i) { (spendM m).1 with fs:=m.fs.eraseIdx i } to hse sf' hlen') rdb ?_
  rintro ⟨r,cc,_⟩ _ ⟨h1,h2,rfl⟩
  simp only at h1 h2
  subst h1 h2
  refine app2 (ca2 ?_)
  unfold moveL at hinv ⊢
  simp only at hinv ⊢
  refine xjoin (xif (fun hw=>?_) (fun hw=>?_))
  · rw [if_pos hw] at hinv ⊢
    obtain ⟨hg,_⟩:=getD_there (d:=⟨to,[],0⟩) hw
    generalize (m.fs.eraseIdx i).getD (findL (m.fs.eraseIdx i) to.toList) ⟨to,[],0⟩=f1 at hg
    have hlt1:findL (m.fs.eraseIdx i) to.toList<(cs.eraseIdx i).length:=by rw [hcl'];exact (List.getElem?_eq_some_iff.1 hg).1
    have hg1:=List.getElem?_eq_getElem hlt1
    generalize (cs.eraseIdx i)[findL (m.fs.eraseIdx i) to.toList]=c1 at hg1
    generalize findL (m.fs.eraseIdx i) to.toList=j at *
    refine xdraw (xnil (xget (h:=xget (h:=xget (h:=xget (h:=?_))))))
    refine xidxn (h1:=hlt1) (h:=fun _ _=>?_)
    refine xsetE (to,c1.2.1,c1.2.2) hg1 (hv:=rfl) (h:=?_)
    have g2:((cs.eraseIdx i).set j (to,c1.2.1,c1.2.2))[j]? = some (to,c1.2.1,c1.2.2):=List.getElem?_set_self hlt1
    refine xsetEj (to,c.2.1,c1.2.2) g2 (hj:=by decide) (hv:=rfl) (h:=?_)
    rw [List.set_set]
    have g3:((cs.eraseIdx i).set j (to,c.2.1,c1.2.2))[j]? = some (to,c.2.1,c1.2.2):=List.getElem?_set_self hlt1
    refine xsetEj (to,c.2.1,c.2.2) g3 (hj:=by decide) (hv:=rfl) (h:=?_)
    rw [List.set_set]
    -- Blk b, Ar FILE, FileR, Each, Blk b1
    refine xfold2 2 2 (Q:=Each FileR ((cs.eraseIdx i).set j (to,c.2.1,c.2.2)) ((m.fs.eraseIdx i).set j { f with nm:=to })) (fun g hgg=>?_) ?_
    · refine each_put hlt1 (List.getElem?_eq_some_iff.1 hg).1 ?_
      refine star_imp (P:=FileR c f) (fun q hq=>(⟨rfl,hq.2.1,hq.2.2⟩:FileR (to,c.2.1,c.2.2) { f with nm:=to } q)) ?_
      refine star_cons (l:=[Each FileR (cs.eraseIdx i) (m.fs.eraseIdx i)]) (fun q hq=>?_) hgg
      obtain ⟨a,_,pa,_,_,sa,_⟩:=hq
      obtain ⟨a1,b1,_,pb1,_,_,sb1⟩:=each_pick pa hg1 hg
      exact star_mono _ pb1 (sb1.trans sa)
    exact xdev_put 1 1 0 b s' ((cs.eraseIdx i).set j (to,c.2.1,c.2.2)) _ hinv (fun _ h=>h) (xdrop 1 (xret ⟨rfl,rfl⟩))
  · rw [if_neg (by rw [hw];simp)] at hinv ⊢
    have hle:=findL_le (m.fs.eraseIdx i) to.toList
    generalize findL (m.fs.eraseIdx i) to.toList=j at *
    refine xdraw (xnil (xget (h:=xget (h:=xget (h:=xget (h:=xnewS fun b2=>?_))))))
    refine xcl (Insert_spec s' (cs.eraseIdx i) j b2 (to,c.2.1,c.2.2) (by omega) (by omega)) rdb ?_
    rintro ⟨s2,_⟩ _ rfl
    refine app1 (ca1 (xnil (xset (h:=?_))))
    -- Ar FILE, Blk b, FileR, Each, Blk b1
    refine xfold2 2 2 (Q:=Each FileR ((cs.eraseIdx i).take j++(to,c.2.1,c.2.2)::(cs.eraseIdx i).drop j) (insL (m.fs.eraseIdx i) j { f with nm:=to })) (fun g hgg=>?_) ?_
    · exact each_ins j (star_imp (P:=FileR c f) (fun q hq=>(⟨rfl,hq.2.1,hq.2.2⟩:FileR (to,c.2.1,c.2.2) { f with nm:=to } q)) hgg)
    exact xdev_put 2 1 0 b s2 ((cs.eraseIdx i).take j++(to,c.2.1,c.2.2)::(cs.eraseIdx i).drop j) _ hinv (fun _ h=>h) (xdrop 1 (xret ⟨rfl,rfl⟩))
end
variable {B:Base}{As F:List HP}
theorem trim_inv {l:LM}(h:LInv l) (m:DM) (to keep:Int):LInv (trimL m l to keep).2.1:=by
  unfold trimL
  split
  · exact h
  split
  · exact h
  dsimp only
  split
  · exact h
  split
  · exact h
  refine ⟨h.n,h.first,fun s hs=>h.segs s (List.mem_of_mem_drop hs),?_,h.safe,fun k s s' h1 h2=>?_⟩
  · have:=h.few;simp;omega
  · rw [List.getElem?_drop] at h1 h2
    exact h.chain (dropsL l to keep+k) s s' h1 (by rw [Nat.add_assoc];exact h2)
theorem wrap_pos {n:Int}(h0:0≤n) (h1:n≤4398046511104):IntKind.u64.wrap n=((n.toNat:Nat):Int):=by
  obtain ⟨k,rfl⟩:=Int.eq_ofNat_of_zero_le h0
  rw [wrap_u64 _ (by omega)];simp
theorem layHead_raw (b:Nat) (p:Option Addr) (m:DM) (l:LM) (s s3:Sl) (sg:Sg) (hn:0≤sg.n∧sg.n≤4398046511104) (hf:0≤sg.first∧sg.first≤4398046511104):Ct Pr F_segs_Log_layHead [.pointer (some ⟨b,0,none⟩),.agg #[.int .i64 sg.n,.int .i64 sg.first,.int .i64 sg.size,s3.v]] .one [.int .i64] [Blk b (logCells p l s),DevObj p m] emp
    (fun t Bs=>t.1=(layM m sg).2∧Bs=[Blk b (logCells p l s),DevObj p (layM m sg).1]):=by
  refine spec1 c_segs_Log_layHead fun B _=>?_
  unfold segs_Log_layHead
  refine xnew fun b1=>xget (h:=?_)
  rw [wrap_pos hn.1 hn.2]
  refine xcl (pre:=[]) (packPut_spec ⟨none,0,0⟩ [] sg.n.toNat (by omega) (by decide)) (rds_of fun _ _ _ _ _=>⟨rfl,rfl,fun h=>absurd h (Nat.lt_irrefl 0)⟩) ?_
  rintro ⟨s4,e,_⟩ _ ⟨_,rfl⟩
  refine app1 (ca2 (xget (h:=?_)))
  rw [wrap_pos hf.1 hf.2]
  have hb8:=be8_len sg.n.toNat
  have hb9:=be8_len sg.first.toNat
  refine xcl (pre:=[]) (packPut_spec s4 ([]++be8 sg.n.toNat) sg.first.toNat (by omega) (by rw [List.nil_append,hb8];decide)) rdb ?_
  rintro ⟨s5,e,_⟩ _ ⟨_,rfl⟩
  refine app1 (ca2 ?_)
  rw [List.nil_append]
  refine xcl (pre:=[]) (chunkPut_spec s5 (be8 sg.n.toNat++be8 sg.first.toNat) (by rw [List.length_append,hb8,hb9];decide)) rdb ?_
  rintro ⟨s6,e,_⟩ _ ⟨_,rfl⟩
  refine app1 (ca2 (xnil (xget (h:=?_))))
  simp only
  unfold layM
  dsimp only
  refine xcl (drop_spec p m newN) rdb ?_
  rintro ⟨t,_⟩ _ ⟨ht,rfl⟩
  simp only at ht;subst ht
  refine app1 (ca1 (xif (fun h=>?_) (fun h=>?_)))
  · rw [if_pos (by simpa using h)]
    exact xuse [Blk b (logCells p l s),DevObj p (dropM m newN).1] (xret ⟨rfl,rfl⟩)
  rw [if_neg (by simpa using h)]
  refine xnil (xget (h:=?_))
  refine xcl (Append_spec p (dropM m newN).1 newN s6 (frameN (be8 sg.n.toNat++be8 sg.first.toNat))) rdb ?_
  rintro ⟨t,_⟩ _ ⟨ht,rfl⟩
  simp only at ht;subst ht
  refine app1 (ca1 (xif (fun h=>?_) (fun h=>?_)))
  · rw [if_pos (by simpa using h)]
    exact xuse [Blk b (logCells p l s),DevObj p (appendM (dropM m newN).1 newN (frameN (be8 sg.n.toNat++be8 sg.first.toNat))).1] (xret ⟨rfl,rfl⟩)
  rw [if_neg (by simpa using h)]
  refine xnil (xget (h:=?_))
  refine xcl (Sync_spec p (appendM (dropM m newN).1 newN (frameN (be8 sg.n.toNat++be8 sg.first.toNat))).1 newN) rdb ?_
  rintro ⟨t,_⟩ _ ⟨ht,rfl⟩
  simp only at ht;subst ht
  refine app1 (ca1 (xif (fun h=>?_) (fun h=>?_)))
  · rw [if_pos (by simpa using h)]
    exact xuse [Blk b (logCells p l s),DevObj p (syncM (appendM (dropM m newN).1 newN (frameN (be8 sg.n.toNat++be8 sg.first.toNat))).1 newN).1] (xret ⟨rfl,rfl⟩)
  rw [if_neg (by simpa using h)]
  refine xnil (xget (h:=?_))
  refine xcl (Rename_spec p (syncM (appendM (dropM m newN).1 newN (frameN (be8 sg.n.toNat++be8 sg.first.toNat))).1 newN).1 newN headN) rdb ?_
  rintro ⟨t,_⟩ _ ⟨ht,rfl⟩
  simp only at ht;subst ht
  refine app1 (ca1 ?_)
  exact xuse [Blk b (logCells p l s),DevObj p (renameM (syncM (appendM (dropM m newN).1 newN (frameN (be8 sg.n.toNat++be8 sg.first.toNat))).1 newN).1 newN headN).1] (xret ⟨rfl,rfl⟩)
theorem SegClone_spec (s:Sl) (cs:List CS) (h0:0<cs.length) (hl:cs.length≤64):Ct Pr F_slices_Clone_L_segs_segment_segs_segment_ [s.v] .one [.slice] [] (RAr SEG s cs) (fun t Bs=>Bs=[Ar SEG t.1 cs]):=by
  refine spec1 c_slices_Clone_L_segs_segment_segs_segment_ fun B hr=>?_
  haveI:Fro B s SEG cs:=⟨hr⟩
  unfold slices_Clone_L_segs_segment_segs_segment_
  have hp:noneB s.p=false:=by
    obtain ⟨h1,_,h2⟩:=hr
    obtain ⟨b,o,_,_,_,_,hp,_⟩:=h2 (by omega)
    rw [hp];rfl
  refine xiff hp (xnew fun b=>?_)
  refine xfold1 0 (Q:=Ar SEG ⟨some ⟨b,0,none⟩,0,0⟩ []) (fun g hg=>⟨[],blk_ar [] 0 rfl rfl hg⟩) ?_
  refine xapp (E:=SEG) (s:=⟨some ⟨b,0,none⟩,0,0⟩) (y:=s) (ys:=cs) (hb:=by simp;omega) (h:=fun s'=>?_)
  rw [List.nil_append]
  exact xret rfl
end Go.Cx
namespace Go.Cx
open Go Go.Cf
set_option linter.unusedVariables false
set_option maxRecDepth 100000
variable {B:Base}{As F:List HP}{α:Type}
theorem spent_code {m:DM}{g:DM→DM}:(spent m g).2=0∨(spent m g).2=10:=by
  unfold spent
  split
  · exact .inr rfl
  · exact .inl rfl
theorem drop_there {m:DM}{nm:ByteArray}(hd:m.down=false) (ht:thereL m.fs nm.toList=true):dropM m nm=removeM m nm:=by
  unfold dropM
  have:(removeM m nm).2≠6:=by
    unfold removeM onFile
    rw [if_neg (by rw [hd];decide),if_neg (by rw [ht];decide)]
    rcases spent_code (m:=m) (g:=fun m'=>{ m' with fs:=m'.fs.eraseIdx (findL m.fs nm.toList) }) with h | h
    · rw [h];decide
    · rw [h];decide
  rw [if_neg this]
theorem drop_none {m:DM}{nm:ByteArray}(hd:m.down=false) (ht:thereL m.fs nm.toList=false):dropM m nm=(m,0):=by
  unfold dropM
  have:removeM m nm=(m,6):=by
    unfold removeM onFile
    rw [if_neg (by rw [hd];decide),if_pos (by rw [ht];decide)]
  rw [this];rfl
theorem each_drop {α β:Type}{R:α→β→HP}:∀ (k:Nat) {xs:List α}{ys:List β}{h:Frag},Each R xs ys h→Each R (xs.drop k) (ys.drop k) h
  | 0,xs,ys,h,hh=>hh
  | k+1,[],[],h,hh=>trivial
  | k+1,x::xs,[],h,hh=>hh.elim
  | k+1,[],y::ys,h,hh=>hh.elim
  | k+1,x::xs,y::ys,h,hh=>by
    obtain ⟨a,b,_,⟨c,d,pc,_,_,sc,_⟩,_,_,sb⟩:=hh
    exact each_drop k (pc.mono (sc.trans sb))
end Go.Cx
