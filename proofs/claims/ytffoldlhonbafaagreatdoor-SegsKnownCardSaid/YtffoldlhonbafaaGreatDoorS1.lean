/-
  The library's functions by the kit's contracts, in the words of these rules.
  A log in segments: its calls.
  A log in segments is opened.
  A log in segments: Open.
  A log in segments: Append, Get, looks.
  A log in segments: Append.
-/
import Derived.Test.YtffoldlhonbafaaGreatDoorH
import Derived.Test.YtffoldlhonbafaaGreatDoorA4
import Derived.Test.YtffoldlhonbafaaGreatDoorSL
import Derived.Test.YtffoldlhonbafaaGreatDoorA3
import Derived.Test.YtffoldlhonbafaaGreatDoorDK
namespace Go.Cx
open Go Go.Cf
set_option linter.unusedVariables false
set_option maxRecDepth 100000
variable {B:Base}{As:List HP}

theorem Sx.below {w w':World}(h:Sx B As w) (hb:Go.RowKit.Below w.heap.size w w'):Sx B As w':=by
  obtain ⟨g,hs,hm,hu⟩:=h
  refine ⟨g,hs,fun k o e=>?_,hb.os.trans hu.os,hb.tape.trans hu.tape,hb.output.trans hu.output,Nat.zero_le _,Nat.le_trans hu.size hb.size,fun k hk h0=>⟨?_,(hu.old k hk h0).2⟩⟩
  · have:=hm k o e
    show w'.heap[k]? = some o
    rw [hb.block k (Array.getElem?_eq_some_iff.1 this).1];exact this
  · rw [hb.block k (Nat.lt_of_lt_of_le hk hu.size)];exact (hu.old k hk h0).1

theorem below_drewN (w:World) (n:Nat):Go.RowKit.Below w.heap.size w (w.drewN n):=⟨rfl,rfl,rfl,Nat.le_refl _,fun _ _=>rfl⟩
theorem below_grow (w:World) (n:Nat) (os:Array Obj):Go.RowKit.Below w.heap.size w (Go.Sort.grow (w.drewN n) os):=
  ⟨rfl,rfl,rfl,by simp [Go.Sort.grow,World.drewN],fun k hk=>by
    show (w.heap++os)[k]? = _
    rw [Array.getElem?_append_left hk]⟩

/-- A call whose contract is the kit's, and that changes nothing that was there. -/
theorem ct_below {P:Program}{f:FuncId}{args:List Value}{rs:Rs}{ss:List Sh}{rd:HP}{post:Tup ss→List HP→Prop}{t:Tup ss}
    (hp:post t []) (h:∀ w:World,rd (mem w)→Calls P f args.toArray w fun e w'=>e=.returned (rs.mk (Tup.vals ss t))∧Go.RowKit.Below w.heap.size w w')
    (mono:∀ g f,rd g→Sub g f→rd f):Ct P f args rs ss [] rd post:=by
  intro w g hs hm hr
  refine (h w (mono _ _ hr fun k o hk=>?_)).mono ?_
  · unfold frz at hk
    cases hg:g k with
    | some _=>rw [hg] at hk;cases hk
    | none=>rw [hg] at hk;exact hk
  · rintro e w' ⟨he,hb⟩
    exact ⟨t,[],he,hp,Sx.below (Sx.start (pre:=[]) hs hm) hb⟩

def numB (n:Int):ByteArray:=⟨(Lib.itoa n).toArray⟩
/-- The library's table of powers of ten, and its greatest length of what is looked for by a machine's own means, as they lie. -/
def GTab:HP:=fun h=>∃ e fr,h 0=some (.cells (Lib.pow10Tab.map fun z=>Value.int .u64 z).toArray e fr)
theorem GTab.mono:∀ g f,GTab g→Sub g f→GTab f:=fun _ _ ⟨e,fr,h⟩ s=>⟨e,fr,s _ _ h⟩
def GMax:HP:=fun h=>∃ (cs:List Value) (e:TypeId) (fr:Nat×Nat) (m:Int),h 0=some (.cells cs.toArray e fr)∧cs[0]? = some (.int .i64 m)
theorem GMax.mono:∀ g f,GMax g→Sub g f→GMax f:=fun _ _ ⟨cs,e,fr,m,h,h2⟩ s=>⟨cs,e,fr,m,s _ _ h,h2⟩
theorem GMax.cell {w:World}(h:GMax (mem w)):∃ m,w.cell? ⟨0,0,none⟩=some (.int .i64 m):=by
  obtain ⟨cs,e,fr,m,h,h2⟩:=h
  have h':w.heap[0]? = some (.cells cs.toArray e fr):=h
  refine ⟨m,?_⟩
  simp only [World.cell?,h']
  simpa using h2

theorem globTab:Pr.globalNamed "internal/strconv.uint64pow10" = some 0:=by kernel_rfl
theorem GTab.tab {w:World}(h:GTab (mem w)):Lib.TabIs Pr w "internal/strconv.uint64pow10" .u64 Lib.pow10Tab:=by
  obtain ⟨e,fr,h⟩:=h
  have h':w.heap[0]? = some _:=h
  show w.var? Pr _=_
  unfold World.var?
  rw [globTab]
  simp only [Option.bind_some,h']

theorem Itoa_spec (n:Int) (h0 : -9223372036854775808≤n) (h1:n≤9223372036854775807):Ct Pr F_strconv_Itoa [.int .i64 n] .one [.str] [] GTab (fun t Bs=>t.1=numB n∧Bs=[]):=
  ct_below (t:=(numB n,())) ⟨rfl,rfl⟩ (fun w hw=>(Go.Proofs.Tryz.strconv_Itoa n h0 h1 w hw.tab).mono fun e w' ⟨he,k,os,hw'⟩=>⟨he,hw' ▸ below_grow w k os⟩) GTab.mono

theorem CutPrefix_spec (s p:ByteArray):Ct Pr F_strings_CutPrefix [.string s,.string p] (.tup [none,none]) [.str,.bool] [] emp (fun t Bs=>t.1=⟨(Lib.trimPrefix s.data.toList p.data.toList).toArray⟩∧t.2.1=Lib.hasPrefix s.data.toList p.data.toList∧Bs=[]):=
  ct_below (t:=(⟨(Lib.trimPrefix s.data.toList p.data.toList).toArray⟩,Lib.hasPrefix s.data.toList p.data.toList,())) ⟨rfl,rfl,rfl⟩ (fun w _=>(Go.Proofs.Tryz.strings_CutPrefix s p w).mono fun e w' ⟨he,hw'⟩=>⟨he,hw' ▸ Go.RowKit.Below.refl _ _⟩) (fun _ _ h _=>h)

theorem flat_st (xs:List ByteArray):flat Cf.ST xs=xs.map Value.string:=by
  induction xs with
  | nil=>rfl
  | cons x xs ih=>show _++flat Cf.ST xs=_;rw [ih];rfl

theorem Trim_spec (s p:ByteArray) (hs:s.size≤4611686018427387904) (hp:p.size<1000) (ha:p.data.toList.all (fun b=>decide (b.toNat<128))=true):Ct Pr F_strings_Trim [.string s,.string p] .one [.str] [] emp (fun t Bs=>t.1=⟨(Lib.trimS s.data.toList p.data.toList).toArray⟩∧Bs=[]):=
  ct_below (t:=(⟨(Lib.trimS s.data.toList p.data.toList).toArray⟩,())) ⟨rfl,rfl⟩ (fun w _=>(Go.Proofs.Tryz.strings_Trim s p w (by omega) (by omega) (fun _ b hb=>of_decide_eq_true (List.all_eq_true.1 ha b (List.mem_of_getElem? hb)))).mono fun e w' ⟨he,hb⟩=>⟨he,hb⟩) (fun _ _ h _=>h)

end Go.Cx
namespace Go.Cx
open Go Go.Cf
set_option linter.unusedVariables false
set_option maxRecDepth 100000
variable {B:Base}{As F:List HP}
theorem file_spec (n:Int) (h0:0≤n) (h1:n≤4398046511104):Ct Pr F_segs_file [.int .i64 n] .one [.str] [] GTab (fun t Bs=>t.1=fN n∧Bs=[]):=by
  refine spec1 c_segs_file fun B hr=>?_
  haveI:FroP B GTab:=⟨hr,fun _ _ h s=>GTab.mono _ _ h s⟩
  unfold segs_file
  refine xcall0 (Itoa_spec n (by omega) (by omega)) rdb ?_
  rintro ⟨t,_⟩ _ ⟨ht,rfl⟩
  obtain rfl:t=BA (Lib.itoa n):=ht
  have hl:=itoa_len (n:=n) (by omega) (by omega)
  refine app0 (ca1 (xasrt ?_ (xret ⟨?_,rfl⟩)))
  · rw [BA_size,show (⟨#[108,111,103,45]⟩:ByteArray).size=4 from rfl];omega
  · rw [show (⟨#[108,111,103,45]⟩:ByteArray)=BA preL from rfl,BA_app];rfl
theorem xfile {n:Int}{K:ByteArray→WP} [r:Rdb B As GTab] (h0:0≤n) (h1:n≤4398046511104) (h:Ent B As (K (fN n))):Ent B As (XCall Pr F_segs_file [.int .i64 n] .one [.str] K):=by
  refine xcall0 (file_spec n h0 h1) rdb ?_
  rintro ⟨t,_⟩ _ ⟨ht,rfl⟩
  obtain rfl:t=fN n:=ht
  exact app0 (ca1 h)
abbrev CS:=Int×Int×Int×Sl
def SEG:Enc CS:=⟨fun x=>[.int .i64 x.1,.int .i64 x.2.1,.int .i64 x.2.2.1,x.2.2.2.v],4,fun _=>rfl,fun x v h=>by simp at h;rcases h with rfl | rfl | rfl | rfl<;>rfl,by decide,(0,0,0,⟨none,0,0⟩)⟩
def SegR (c:CS) (s:Sg):HP:=fun h=>c.1=s.n∧c.2.1=s.first∧c.2.2.1=s.size∧ORows c.2.2.2 s.ps h
abbrev logCells (p:Option Addr) (l:LM) (s:Sl):List Value:=[.pointer p,.int .i64 l.n,.int .i64 l.first,s.v,.int .i64 l.safe]
def LogObj (q p:Option Addr) (l:LM):HP:=fun h=>LInv l∧∃ b s cs,q=some ⟨b,0,none⟩∧star [Blk b (logCells p l s),Ar SEG s cs,Each SegR cs l.segs] h
structure LF (cs:List CS) (ss:List Sg):Prop where
  len:cs.length=ss.length
  each:∀ (i:Nat) (c:CS) (s:Sg),cs[i]? = some c→ss[i]? = some s→c.1=s.n∧c.2.1=s.first∧c.2.2.1=s.size∧c.2.2.2.n=s.ps.length∧c.2.2.2.n≤c.2.2.2.c
theorem orows_len {s:Sl}{ps:List (List UInt8)}{h:Frag}(hr:ORows s ps h):s.n=ps.length∧s.n≤s.c:=by
  obtain ⟨rs,a,b,⟨zs,pa⟩,⟨c,d,pc,_⟩,_⟩:=hr
  have:=Each.length pc
  exact ⟨by rw [←pa.1];exact this,pa.cap⟩
theorem lf_of {cs:List CS}{ss:List Sg}{g:Frag}(h:Each SegR cs ss g):LF cs ss:=
  ⟨h.length,fun i c s a b=>each_read (R:=SegR) (S:=fun c s _=>c.1=s.n∧c.2.1=s.first∧c.2.2.1=s.size∧c.2.2.2.n=s.ps.length∧c.2.2.2.n≤c.2.2.2.c) (fun _ _ _ _ h _=>h) (fun x y g ⟨h1,h2,h3,h4⟩=>⟨h1,h2,h3,orows_len h4⟩) h a b⟩
theorem xlog (i:Nat) {q p:Option Addr}{l:LM}{F:List HP} [r:Pick i As (LogObj q p l) F] {φ:WP}
    (k:LInv l→∀ b s cs,q=some ⟨b,0,none⟩→LF cs l.segs→s.n=cs.length→Ent B (Blk b (logCells p l s)::Ar SEG s cs::Each SegR cs l.segs::F) φ):Ent B As φ:=by
  refine Ent.perm r.perm ?_
  intro w hw
  obtain ⟨g,⟨a,c,⟨hi,b,s,cs,hp,pa⟩,pc,d,sa,sc⟩,hm,hu⟩:=hw
  have hl:LF cs l.segs∧s.n=cs.length:=by
    obtain ⟨_,_,_,⟨_,_,⟨_,par⟩,⟨_,_,pe,_⟩,_⟩,_⟩:=pa
    exact ⟨lf_of pe,par.1.symm⟩
  exact k hi b s cs hp hl.1 hl.2 w ⟨g,(star_append [_,_,_] F).2 ⟨a,c,pa,pc,d,sa,sc⟩,hm,hu⟩
theorem xlog_back (b:Nat) (s:Sl) (cs:List CS) {p:Option Addr}{l:LM}{G:List HP} [q:Split [Blk b (logCells p l s),Ar SEG s cs,Each SegR cs l.segs] As G] {φ:WP}
    (hi:LInv l) (k:Ent B (LogObj (some ⟨b,0,none⟩) p l::G) φ):Ent B As φ:=
  xfold [Blk b (logCells p l s),Ar SEG s cs,Each SegR cs l.segs] (LogObj (some ⟨b,0,none⟩) p l) (fun g hg=>⟨hi,b,s,cs,rfl,hg⟩) k
theorem segnext_spec (a b c:Int) (s:Sl):Ct Pr F_segs_segment_next [.agg #[.int .i64 a,.int .i64 b,.int .i64 c,s.v]] .one [.int .i64] [] emp (fun t Bs=>t.1=IntKind.i64.wrap (b+s.n)∧Bs=[]):=by
  refine spec1 c_segs_segment_next fun B _=>?_
  unfold segs_segment_next
  refine xnew fun b=>xget (h:=xget (h:=?_))
  exact xkeep (l:=[]) (xret ⟨rfl,rfl⟩)
theorem current_raw (b:Nat) (p:Option Addr) (l:LM) (s:Sl) (cs:List CS) (hs:s.n=cs.length) (hl:cs.length≤64):Ct Pr F_segs_Log_current [.pointer (some ⟨b,0,none⟩)] .one [.ptr] [Blk b (logCells p l s),Ar SEG s cs] emp
    (fun t Bs=>t.1=(if cs=[] then none else some (s.at 4 (cs.length - 1)))∧Bs=[Blk b (logCells p l s),Ar SEG s cs]):=by
  refine spec1 c_segs_Log_current fun B _=>?_
  unfold segs_Log_current
  refine xnil (xget (h:=xif (fun h=>xret ⟨?_,rfl⟩) (fun h=>?_)))
  · have:cs=[]:=List.eq_nil_of_length_eq_zero (by simp at h;omega)
    rw [if_pos this]
  have hne:cs≠[]:=fun e=>by subst e;simp at hs;simp [hs] at h
  have hpos:0<cs.length:=List.length_pos_iff.2 hne
  refine xdraw (xnil (xget (h:=xnil (xget (h:=?_)))))
  rw [wrap_id _ (by omega) (by omega),show (s.n:Int) - 1=((cs.length - 1:Nat):Int) by omega]
  refine xidxn (E:=SEG) (xs:=cs) (s:=s) (h1:=by omega) (h:=fun c hc=>xret ⟨?_,rfl⟩)
  rw [if_neg hne]
theorem last_get {cs:List CS}{ss:List Sg}(h:LF cs ss) {s:Sg}(hs:ss.getLast? = some s):∃ c,cs[cs.length - 1]? = some c∧c.1=s.n∧c.2.1=s.first∧c.2.2.1=s.size∧c.2.2.2.n=s.ps.length∧c.2.2.2.n≤c.2.2.2.c:=by
  have h1:=getLast_get hs
  have hlt:=(List.getElem?_eq_some_iff.1 h1).1
  have hc:=List.getElem?_eq_getElem (l:=cs) (i:=cs.length - 1) (by rw [h.len];exact hlt)
  exact ⟨_,hc,h.each _ _ _ hc (by rw [h.len];exact h1)⟩
theorem lf_nil {cs:List CS}{ss:List Sg}(h:LF cs ss):cs=[]↔ss.getLast? = none:=by
  rw [List.getLast?_eq_none_iff]
  have:=h.len
  constructor
  · rintro rfl;exact List.eq_nil_of_length_eq_zero (by simpa using this.symm)
  · rintro rfl;exact List.eq_nil_of_length_eq_zero (by simpa using this)
theorem next_raw (b:Nat) (p:Option Addr) (l:LM) (s:Sl) (cs:List CS) (hs:s.n=cs.length) (hf:LF cs l.segs) (hi:LInv l):Ct Pr F_segs_Log_Next [.pointer (some ⟨b,0,none⟩)] .one [.int .i64] [Blk b (logCells p l s),Ar SEG s cs] emp
    (fun t Bs=>t.1=l.next∧Bs=[Blk b (logCells p l s),Ar SEG s cs]):=by
  refine spec1 c_segs_Log_Next fun B _=>?_
  unfold segs_Log_Next
  have hfew:=hi.few
  refine xcl (current_raw b p l s cs hs (by rw [hf.len];exact hfew)) rdb ?_
  rintro ⟨t,_⟩ _ ⟨ht,rfl⟩
  simp only at ht
  subst ht
  refine app2 (ca1 ?_)
  cases hc:l.segs.getLast? with
  | none=>
    rw [if_pos ((lf_nil hf).2 hc)]
    refine xiff rfl (xnil (xget (h:=xret ⟨?_,rfl⟩)))
    unfold LM.next LM.cur;rw [hc]
  | some sg=>
    rw [if_neg (fun e=>by have:=(lf_nil hf).1 e;rw [hc] at this;cases this)]
    obtain ⟨c,h1,h2,h3,h4,h5,h6⟩:=last_get hf hc
    obtain ⟨g1,g2,g3,g4,_⟩:=hi.segs sg (List.mem_of_getLast? hc)
    refine xift rfl (xnil ?_)
    refine xgetE (E:=SEG) (xs:=cs) h1 (h:=?_)
    iterate 3 (refine xgetEj (E:=SEG) (xs:=cs) h1 (h:=?_))
    refine xcall0 (segnext_spec _ _ _ c.2.2.2) rdb ?_
    rintro ⟨t,_⟩ _ ⟨ht,rfl⟩
    simp only at ht
    subst ht
    refine app0 (ca1 (xret ⟨?_,rfl⟩))
    simp only
    rw [wrap_id _ (by omega) (by omega),h3,h5]
    unfold LM.next LM.cur;rw [hc];rfl
theorem devobj_some {p:Option Addr}{m:DM}{g:Frag}(h:DevObj p m g):∃ b,p=some ⟨b,0,none⟩:=by
  obtain ⟨_,b,_,_,e,_⟩:=h;exact ⟨b,e⟩
theorem alive_raw (b:Nat) (p:Option Addr) (m:DM) (l:LM) (s:Sl):Ct Pr F_segs_Log_alive [.pointer (some ⟨b,0,none⟩)] .one [.int .i64] [Blk b (logCells p l s),DevObj p m] emp
    (fun t Bs=>t.1=(if m.down=true then 10 else 0)∧Bs=[Blk b (logCells p l s),DevObj p m]):=by
  refine spec1 c_segs_Log_alive fun B _=>?_
  unfold segs_Log_alive
  refine xnil (xget (h:=?_))
  refine xfact 1 (P1:=DevObj p m) (fun g hg=>devobj_some hg) fun ⟨pb,hp⟩=>?_
  subst hp
  refine xnil ?_
  refine xcl (Down_spec (some ⟨pb,0,none⟩) m) rdb ?_
  rintro ⟨c,_⟩ _ ⟨hc,rfl⟩
  obtain rfl:c=m.down:=hc
  refine app1 (ca1 (xfront 1 (xif (fun h=>xret ⟨by rw [if_pos h],rfl⟩) (fun h=>xret ⟨by rw [if_neg (by rw [h];decide)],rfl⟩))))
theorem sSync_spec (q p:Option Addr) (m:DM) (l:LM) (hn:l.segs=[]→l.safe=l.next):Ct Pr F_segs_Log_Sync [.pointer q] .one [.int .i64] [LogObj q p l,DevObj p m] GTab
    (fun t Bs=>t.1=(syncL m l).2.2∧Bs=[LogObj q p (syncL m l).2.1,DevObj p (syncL m l).1]):=by
  refine spec1 c_segs_Log_Sync fun B hr=>?_
  haveI:FroP B GTab:=⟨hr,fun _ _ h s=>GTab.mono _ _ h s⟩
  unfold segs_Log_Sync
  refine xlog 0 fun hi b s cs hq hf hs=>?_
  subst hq
  refine xcl (alive_raw b p m l s) rdb ?_
  rintro ⟨t,_⟩ _ ⟨ht,rfl⟩
  simp only at ht;subst ht
  refine app2 (ca1 (xif (fun h=>?_) (fun h=>?_)))
  · have hd:m.down=true:=by
      cases e:m.down with
      | true=>rfl
      | false=>rw [e] at h;cases h
    refine xlog_back (p:=p) (l:=l) b s cs hi ?_
    rw [if_pos hd]
    have e:syncL m l=(m,l,10):=by unfold syncL;rw [if_pos hd]
    rw [e]
    exact xret ⟨rfl,rfl⟩
  have hd:m.down=false:=by
    cases e:m.down with
    | false=>rfl
    | true=>rw [e] at h;cases h
  refine xdraw (xnil (xget (h:=?_)))
  refine xcl (next_raw b p l s cs hs hf hi) rdb ?_
  rintro ⟨t,_⟩ _ ⟨ht,rfl⟩
  simp only at ht;subst ht
  refine app2 (ca1 (xchk (h:=xif (fun h1=>?_) (fun h1=>?_))))
  · have h1:l.safe=l.next:=by simpa using h1
    have e:syncL m l=(m,l,0):=by unfold syncL;rw [if_neg (by rw [hd];decide),if_pos h1]
    rw [e]
    exact xlog_back (p:=p) (l:=l) b s cs hi (xret ⟨rfl,rfl⟩)
  have h1:¬ l.safe=l.next:=by simpa using h1
  refine xdraw (xnil (xget (h:=?_)))
  refine xcl (current_raw b p l s cs hs (by rw [hf.len];exact hi.few)) rdb ?_
  rintro ⟨t,_⟩ _ ⟨ht,rfl⟩
  simp only at ht;subst ht
  refine app2 (ca1 (xchk (h:=?_)))
  have hne:l.segs≠[]:=fun e=>h1 (hn e)
  obtain ⟨sg,hc⟩:∃ sg,l.segs.getLast? = some sg:=⟨_,List.getLast?_eq_some_getLast hne⟩
  rw [if_neg (fun e=>by have:=(lf_nil hf).1 e;rw [hc] at this;cases this)]
  obtain ⟨c,g1,g2,g3,g4,g5,g6⟩:=last_get hf hc
  obtain ⟨k1,k2,k3,k4,_⟩:=hi.segs sg (List.mem_of_getLast? hc)
  refine xnil (xgetE (E:=SEG) (xs:=cs) g1 (h:=?_))
  rw [g2]
  refine xfile (by omega) (by omega) (xchk (h:=?_))
  refine xcl (Sync_spec p m (fN sg.n)) rdb ?_
  rintro ⟨t,_⟩ _ ⟨ht,rfl⟩
  simp only at ht;subst ht
  have e:syncL m l=if (syncM m (fN sg.n)).2≠0 then ((syncM m (fN sg.n)).1,l,(syncM m (fN sg.n)).2) else ((syncM m (fN sg.n)).1,{ l with safe:=l.next },0):=by
    unfold syncL LM.cur;rw [if_neg (by rw [hd];decide),if_neg h1,hc];rfl
  rw [e]
  refine app1 (ca1 (xif (fun h2=>?_) (fun h2=>?_)))
  · have h2:(syncM m (fN sg.n)).2≠0:=by simpa using h2
    rw [if_pos h2]
    exact xlog_back (p:=p) (l:=l) b s cs hi (xret ⟨rfl,rfl⟩)
  · have h2:¬ (syncM m (fN sg.n)).2≠0:=by simpa using h2
    rw [if_neg h2]
    refine xcl (next_raw b p l s cs hs hf hi) rdb ?_
    rintro ⟨t,_⟩ _ ⟨ht,rfl⟩
    simp only at ht;subst ht
    refine app2 (ca1 (xnil (xset (h:=?_))))
    have hb:=hi.next
    exact xlog_back (p:=p) (l:={ l with safe:=l.next }) b s cs ⟨hi.n,hi.first,hi.segs,hi.few,by simp only;omega,hi.chain⟩ (xret ⟨rfl,rfl⟩)
end Go.Cx
namespace Go.Cx
open Go Go.Cf
set_option linter.unusedVariables false
set_option maxRecDepth 100000
variable {B:Base}{As F:List HP}
theorem drop_spec (p:Option Addr) (m:DM) (nm:ByteArray):Ct Pr F_segs_drop [.pointer p,.string nm] .one [.int .i64] [DevObj p m] emp (fun t Bs=>t.1=(dropM m nm).2∧Bs=[DevObj p (dropM m nm).1]):=by
  refine spec1 c_segs_drop fun B _=>?_
  unfold segs_drop
  refine xcl (Remove_spec p m nm) rdb ?_
  rintro ⟨t,_⟩ _ ⟨ht,rfl⟩
  simp only at ht;subst ht
  unfold dropM
  refine app1 (ca1 (xif (fun h=>?_) (fun h=>?_)))
  · have h:¬ (removeM m nm).2=6:=by simpa using h
    rw [if_neg h];exact xret ⟨rfl,rfl⟩
  · have h:(removeM m nm).2=6:=by simpa using h
    rw [if_pos h];exact xret ⟨rfl,rfl⟩
theorem wrap_i64u (v:Nat) (h:v≤9223372036854775807):IntKind.i64.wrap (v:Int)=v:=wrap_id _ (by omega) (by omega)
theorem readHead_spec (p:Option Addr) (m:DM):Ct Pr F_segs_readHead [.pointer p] (.tup [none,none,none]) [.int .i64,.int .i64,.int .i64] [DevObj p m] emp
    (fun t Bs=>t.1=(headM m).1∧t.2.1=(headM m).2.1∧t.2.2.1=(headM m).2.2∧Bs=[DevObj p m]):=by
  refine spec3 c_segs_readHead fun B _=>?_
  unfold segs_readHead
  refine xfact 0 (P1:=DevObj p m) (fun g hg=>hg.1) fun hI=>?_
  have hlen:=read_len hI headN
  refine xcl (Read_spec p m headN) rdb ?_
  rintro ⟨s,r,_⟩ _ ⟨hr,rfl⟩
  simp only at hr;subst hr
  unfold headM
  refine app2 (ca2 (xif (fun h=>?_) (fun h=>?_)))
  · have h:(readM m headN).2≠0:=by simpa using h
    rw [if_pos h]
    exact xuse [DevObj p m] (xret ⟨rfl,rfl,rfl,rfl⟩)
  have h:¬ (readM m headN).2≠0:=by simpa using h
  rw [if_neg h]
  refine xlen s fun hsl hsc=>?_
  replace hsl:(readM m headN).1.length=s.n:=hsl
  refine xcl (pre:=[]) (chunkGet_spec s (readM m headN).1 (by omega) hsc) rdb ?_
  rintro ⟨s1,r1,r2,_⟩ _ ⟨h1,h2,rfl⟩
  simp only at h1 h2;subst h1 h2
  generalize hx:(readM m headN).1=xs at *
  generalize hg:getN xs=gx at *
  obtain ⟨pl,u,e⟩:=gx
  refine app1 (ca3 ?_)
  refine xlen s1 fun hl1 hc1=>?_
  replace hl1:pl.length=s1.n:=hl1
  replace hsl:xs.length=s.n:=hsl
  have hcond:(((e != 0)||(((u:Nat):Int) != (s.n:Int)))||(((s1.n:Int)) != 16))=decide (e≠0∨u≠xs.length∨pl.length≠16):=by
    rw [Bool.eq_iff_iff]
    simp only [Bool.or_eq_true,bne_iff_ne,ne_eq,decide_eq_true_eq]
    omega
  simp only
  rw [hcond]
  refine xif_dec (fun h3=>?_) (fun h3=>?_)
  · rw [if_pos h3]
    exact xuse [DevObj p m] (xret ⟨rfl,rfl,rfl,rfl⟩)
  rw [if_neg h3]
  have hp16:pl.length=16:=by
    by_cases e:pl.length=16
    · exact e
    · exact absurd (.inr (.inr e)) h3
  refine xcl (pre:=[]) (packGet_spec s1 pl 0 (by omega) (by omega) hc1) rdb ?_
  rintro ⟨x,z,_⟩ _ ⟨hx1,_,rfl⟩
  simp only at hx1;subst hx1
  refine app0 (ca2 ?_)
  refine xcl (pre:=[]) (packGet_spec s1 pl 8 (by omega) (by omega) hc1) rdb ?_
  rintro ⟨y,z1,_⟩ _ ⟨hy1,_,rfl⟩
  simp only at hy1;subst hy1
  refine app0 (ca2 ?_)
  have hcond2:(((decide (((beV (cut8 pl 0):Nat):Int)<1))||(decide (((beV (cut8 pl 0):Nat):Int)>999999999999)))||(decide (((beV (cut8 pl 8):Nat):Int)>1099511627776)))=decide (beV (cut8 pl 0)<1∨beV (cut8 pl 0)>999999999999∨beV (cut8 pl 8)>1099511627776):=by
    rw [Bool.eq_iff_iff]
    simp only [Bool.or_eq_true,decide_eq_true_eq]
    omega
  rw [hcond2]
  refine xif_dec (fun h4=>?_) (fun h4=>?_)
  · rw [if_pos h4]
    exact xuse [DevObj p m] (xret ⟨rfl,rfl,rfl,rfl⟩)
  · rw [if_neg h4,wrap_i64u _ (by omega),wrap_i64u _ (by omega)]
    exact xuse [DevObj p m] (xret ⟨rfl,rfl,rfl,rfl⟩)
theorem dropWhile_nil {α:Type}(p:α→Bool):∀ l:List α,(l.dropWhile p=[]↔l.all p=true)
  | []=>by simp
  | x::l=>by
    simp only [List.dropWhile_cons,List.all_cons,Bool.and_eq_true]
    split
    · rename_i h;rw [dropWhile_nil p l];simp [h]
    · rename_i h;simp [h]
theorem dropWhile_head {α:Type}(p:α→Bool):∀ (l:List α) x r,l.dropWhile p=x::r→p x=false
  | [],x,r,h=>by simp at h
  | y::l,x,r,h=>by
    rw [List.dropWhile_cons] at h
    split at h
    · exact dropWhile_head p l x r h
    · rename_i hp
      obtain ⟨rfl,_⟩:=List.cons.inj h
      simpa using hp
theorem trim_nil (d cs:List UInt8):Lib.trimS d cs=[]↔d.all (cs.contains ·)=true:=by
  unfold Lib.trimS Lib.trimLeftS Lib.trimRightS
  rw [dropWhile_nil,List.all_reverse]
  cases e:d.reverse.dropWhile (cs.contains ·) with
  | nil=>
    have:=(dropWhile_nil (cs.contains ·) d.reverse).1 e
    rw [List.all_reverse] at this
    simp only [List.all_nil,true_iff]
    exact this
  | cons x r=>
    have hx:=dropWhile_head _ _ _ _ e
    simp only [List.all_cons,hx,Bool.false_and]
    constructor
    · intro h;cases h
    · intro h
      rw [←List.all_reverse,←dropWhile_nil,e] at h
      cases h
theorem dig_contains (b:UInt8):([48,49,50,51,52,53,54,55,56,57]:List UInt8).contains b=isDig b:=by
  have:∀ n:Fin 256,([48,49,50,51,52,53,54,55,56,57]:List UInt8).contains (UInt8.ofNat n.val)=isDig (UInt8.ofNat n.val):=by decide
  have h:=this ⟨b.toNat,b.toNat_lt⟩
  simpa using h
theorem isFile_spec (s:ByteArray) (hs:s.size≤4096):Ct Pr F_segs_isFile [.string s] .one [.bool] [] emp (fun t Bs=>t.1=isFileB s.data.toList∧Bs=[]):=by
  refine spec1 c_segs_isFile fun B hr=>?_
  unfold segs_isFile
  refine xcall0 (CutPrefix_spec s _) rdb ?_
  rintro ⟨t,c,_⟩ _ ⟨ht,hc,rfl⟩
  have hlit:(⟨#[108,111,103,45]⟩:ByteArray).data.toList=preL:=rfl
  rw [hlit] at ht hc
  simp only at ht hc
  have hsz:s.data.toList.length=s.size:=by rw [Array.length_toList];rfl
  generalize s.data.toList=l at *
  refine app0 (ca2 ?_)
  have fin:∀ {As:List HP}{c:Bool},c=isFileB l→Ent B As (Ret B (ss:=[.bool]) (fun t Bs=>t.1=isFileB l∧Bs=[]) (c,())):=fun {As}{c} h=>xkeep (l:=[]) (xret ⟨h,rfl⟩)
  cases hp:Lib.hasPrefix l preL with
  | false=>
    rw [hp] at hc;subst hc
    refine xjoin (xiff rfl (xjoin (xiff rfl (xjoin (xiff rfl (fin ?_))))))
    symm
    unfold isFileB
    simp only [Bool.and_eq_false_iff,Bool.not_eq_false',decide_eq_false_iff_not,beq_eq_false_iff_ne]
    refine .inl (.inl (.inr fun e=>?_))
    have:preL.isPrefixOf l=true:=by
      rw [List.isPrefixOf_iff_prefix,←e];exact List.take_prefix _ _
    unfold Lib.hasPrefix at hp
    rw [this] at hp;cases hp
  | true=>
    rw [hp] at hc;subst hc
    obtain ⟨d,rfl⟩:∃ d,l=preL++d:=by
      unfold Lib.hasPrefix at hp
      rw [List.isPrefixOf_iff_prefix] at hp
      obtain ⟨d,hd⟩:=hp
      exact ⟨d,hd.symm⟩
    have htd:t=BA d:=by
      rw [ht]
      unfold Lib.trimPrefix
      rw [if_pos hp,List.drop_left];rfl
    subst htd
    have e4:preL.length=4:=rfl
    have hm:isFileB (preL++d)=(!(d == [])&&decide (d.length≤12) && !(d[0]? == some 48)&&d.all isDig):=by
      unfold isFileB
      have h1:(preL++d).take 4=preL:=by rw [←e4,List.take_left]
      have h2:(preL++d).drop 4=d:=by rw [←e4,List.drop_left]
      have h3:(preL++d)[4]? = d[0]?:=by rw [List.getElem?_append_right (by omega),e4]
      have h4:(decide (5≤(preL++d).length)) = !(d == []):=by
        rw [List.length_append,e4,Bool.eq_iff_iff]
        cases d with
        | nil=>simp
        | cons y r=>simp;omega
      have h5:decide ((preL++d).length≤16)=decide (d.length≤12):=by
        rw [List.length_append,e4,Bool.eq_iff_iff]
        simp only [decide_eq_true_eq];omega
      rw [h1,h2,h3,h4,h5];simp
    have fin:=fun {As:List HP}{c:Bool}(h:c=(!(d == [])&&decide (d.length≤12) && !(d[0]? == some 48)&&d.all isDig))=>fin (As:=As) (h.trans hm.symm)
    have hde:((BA d).toList == ByteArray.empty.toList)=(d == []):=by rw [BA_toList,empty_list]
    refine xjoin (xift rfl ?_)
    rw [hde]
    rw [BA_size]
    have hdl:((decide ((d.length:Int)≤12)):Bool)=decide (d.length≤12):=by
      rw [Bool.eq_iff_iff];simp only [decide_eq_true_eq];omega
    rw [hdl]
    cases hd:d with
    | nil=>
      subst hd
      refine xjoin (xiff rfl (xjoin (xiff rfl (fin rfl))))
    | cons y r=>
      rw [←hd]
      have hd0:d[0]? = some y:=by rw [hd];rfl
      have hne:(d == [])=false:=by rw [hd];rfl
      rw [hne,hd0] at fin
      rw [hne]
      have hy:((y.toNat:Int) != 48) = !((some y:Option UInt8) == some 48):=by
        rw [Bool.eq_iff_iff]
        simp only [bne_iff_ne,ne_eq,Bool.not_eq_true',beq_eq_false_iff_ne,Option.some.injEq]
        constructor
        · rintro h rfl;exact h rfl
        · intro h e
          exact h (UInt8.toNat_inj.1 (by have : y.toNat = 48 := by omega
                                         exact this))
      cases h12:decide (d.length≤12) with
      | false=>
        rw [h12] at fin
        exact xjoin (xiff rfl (xjoin (xiff rfl (fin rfl))))
      | true=>
        rw [h12] at fin
        refine xjoin (xift rfl (xbyte (k:=0) rfl (by rw [BA_list];exact hd0) ?_))
        rw [hy]
        refine xjoin (xif (fun h=>?_) (fun h=>fin ?_))
        · rw [h] at fin
          refine xcall0 (Trim_spec (BA d) _ (by rw [BA_size];simp at h12;omega) (by decide) (by decide)) rdb ?_
          rintro ⟨t1,_⟩ _ ⟨ht1,rfl⟩
          have hcs:(⟨#[48,49,50,51,52,53,54,55,56,57]⟩:ByteArray).data.toList=[48,49,50,51,52,53,54,55,56,57]:=rfl
          rw [BA_list,hcs] at ht1
          obtain rfl:t1=BA (Lib.trimS d [48,49,50,51,52,53,54,55,56,57]):=ht1
          refine app0 (ca1 (fin ?_))
          rw [BA_toList,empty_list,Bool.eq_iff_iff,beq_iff_eq,trim_nil]
          have:d.all (fun x=>([48,49,50,51,52,53,54,55,56,57]:List UInt8).contains x)=d.all isDig:=by
            congr 1;funext b;exact dig_contains b
          rw [this];simp
        · rw [h];rfl
theorem open1_spec (c:CS) (a:Nat) (nm:ByteArray) (h0:0≤c.1) (h1:c.1≤4398046511104):Ct Pr F_segs_Open_1 [.agg #[.int .i64 c.1,.int .i64 c.2.1,.int .i64 c.2.2.1,c.2.2.2.v],.pointer (some ⟨a,0,none⟩)] .one [.bool] [Blk a [.string nm]] GTab
    (fun t Bs=>t.1=(fK c.1 == nm.toList)∧Bs=[Blk a [.string nm]]):=by
  refine spec1 c_segs_Open_1 fun B hr=>?_
  haveI:FroP B GTab:=⟨hr,fun _ _ h s=>GTab.mono _ _ h s⟩
  unfold segs_Open_1
  refine xnew fun b=>xdraw (xget (h:=xget (h:=?_)))
  refine xfile h0 h1 (xchk (h:=?_))
  exact xuse [Blk a [.string nm]] (xret ⟨rfl,rfl⟩)
theorem contains_raw (a:Nat) (nm:ByteArray) (s:Sl) (cs:List CS) (ss:List Sg) (hf:LF cs ss) (hs:s.n=cs.length) (hl:ss.length≤64) (hb:∀ x∈ss,1≤x.n∧x.n≤2000000000000) :
    Ct Pr F_slices_ContainsFunc_L_segs_segment_segs_segment_ [s.v,.func (.func F_segs_Open_1) #[] #[.pointer (some ⟨a,0,none⟩)]] .one [.bool] [Blk a [.string nm],Ar SEG s cs] GTab
    (fun t Bs=>t.1=(ss.any fun x=>fK x.n == nm.toList)∧Bs=[Blk a [.string nm],Ar SEG s cs]):=by
  refine spec1 c_slices_ContainsFunc_L_segs_segment_segs_segment_ fun B hr=>?_
  haveI:FroP B GTab:=⟨hr,fun _ _ h s=>GTab.mono _ _ h s⟩
  unfold slices_ContainsFunc_L_segs_segment_segs_segment_
  have idx:Ct Pr F_slices_IndexFunc_L_segs_segment_segs_segment_ [s.v,.func (.func F_segs_Open_1) #[] #[.pointer (some ⟨a,0,none⟩)]] .one [.int .i64] [Blk a [.string nm],Ar SEG s cs] GTab
      (fun t Bs=>(decide (t.1≥0):Bool)=(ss.any fun x=>fK x.n == nm.toList)∧Bs=[Blk a [.string nm],Ar SEG s cs]):=by
    refine spec1 c_slices_IndexFunc_L_segs_segment_segs_segment_ fun B hr=>?_
    haveI:FroP B GTab:=⟨hr,fun _ _ h s=>GTab.mono _ _ h s⟩
    unfold slices_IndexFunc_L_segs_segment_segs_segment_
    refine xloop1 (fun n i As=>∃ k:Nat,i=(k:Int)∧n=cs.length - k∧k≤cs.length∧((ss.take k).any fun x=>fK x.n == nm.toList)=false∧As=[Blk a [.string nm],Ar SEG s cs]) cs.length ⟨0,rfl,rfl,by omega,rfl,rfl⟩ ?_
    rintro n _ _ K ⟨k,rfl,rfl,hk,hno,rfl⟩ hK
    refine xif_dec (fun h=>?_) (fun h=>?_)
    · have hlt:k<cs.length:=by omega
      have hx:=List.getElem?_eq_getElem hlt
      have hy:=List.getElem?_eq_getElem (l:=ss) (i:=k) (by rw [←hf.len];exact hlt)
      obtain ⟨g1,g2,g3,g4,g5⟩:=hf.each k _ _ hx hy
      have hbx:=hb _ (List.mem_of_getElem? hy)
      generalize cs[k]=c at *
      generalize hsg:ss[k]'(by rw [←hf.len];exact hlt)=sg at *
      refine xidxn (E:=SEG) (xs:=cs) (s:=s) (h1:=hlt) (h:=fun _ _=>?_)
      refine xgetE (E:=SEG) (xs:=cs) hx (h:=?_)
      iterate 3 (refine xgetEj (E:=SEG) (xs:=cs) hx (h:=?_))
      refine xcl (open1_spec c a nm (by omega) (by omega)) rdb ?_
      rintro ⟨t,_⟩ _ ⟨ht,rfl⟩
      simp only at ht;subst ht
      have hsn:ss.take (k+1)=ss.take k++[sg]:=by rw [List.take_add_one,hy];rfl
      refine app1 (ca1 (xif (fun h2=>?_) (fun h2=>?_)))
      · refine xret ⟨?_,rfl⟩
        have:ss.any (fun x=>fK x.n == nm.toList)=true:=by
          refine List.any_eq_true.2 ⟨sg,List.mem_of_getElem? hy,?_⟩
          rw [←g1];exact h2
        rw [this];simp
      · rw [wrap_succ k (by rw [hf.len] at hlt;omega)]
        refine hK (cs.length - (k+1)) _ _ (by omega) ⟨k+1,rfl,rfl,by omega,?_,rfl⟩
        rw [hsn,List.any_append,hno]
        simp only [List.any_cons,List.any_nil,Bool.or_false,Bool.false_or]
        rw [←g1];exact h2
    · have:k=ss.length:=by rw [←hf.len];omega
      rw [this,List.take_of_length_le (Nat.le_refl _)] at hno
      refine xret ⟨?_,rfl⟩
      rw [hno];rfl
  refine xcl idx rdb ?_
  rintro ⟨t,_⟩ _ ⟨ht,rfl⟩
  exact app2 (ca1 (xret ⟨ht,rfl⟩))
end Go.Cx
namespace Go.Cx
open Go Go.Cf
set_option linter.unusedVariables false
set_option maxRecDepth 100000
variable {B:Base}{As F:List HP}
theorem open_e1 {m:DM}(h:(dropM m newN).2≠0):openM m=((dropM m newN).1,none,(dropM m newN).2):=by unfold openM;rw [if_pos h]
theorem open_e2 {m:DM}(h:¬ (dropM m newN).2≠0) (h2:(headM (dropM m newN).1).2.2≠0):openM m=((dropM m newN).1,none,(headM (dropM m newN).1).2.2):=by unfold openM;rw [if_neg h];simp only [if_pos h2]
theorem open_e3 {m:DM}(h:¬ (dropM m newN).2≠0) (h2:¬ (headM (dropM m newN).1).2.2≠0) {m':DM}{l:LM}{e:Int}(h3:readL 70 (dropM m newN).1 (headM (dropM m newN).1).1 ⟨(headM (dropM m newN).1).1,(headM (dropM m newN).1).2.1,[],0⟩=(m',l,e)) (he:e≠0):openM m=(m',none,e):=by
  unfold openM;rw [if_neg h];simp only [if_neg h2,h3,if_pos he]
theorem open_e4 {m:DM}(h:¬ (dropM m newN).2≠0) (h2:¬ (headM (dropM m newN).1).2.2≠0) {m':DM}{l:LM}(h3:readL 70 (dropM m newN).1 (headM (dropM m newN).1).1 ⟨(headM (dropM m newN).1).1,(headM (dropM m newN).1).2.1,[],0⟩=(m',l,0)) {w:DM×Int}(hw:sweepM l (m'.fs.map (·.nm)) m'=w) :
    openM m=if w.2≠0 then (w.1,none,w.2) else (w.1,some { l with safe:=l.next },0):=by
  unfold openM;rw [if_neg h];simp only [if_neg h2,h3,hw];rfl
def openPost (p:Option Addr) (m:DM):Tup [.ptr,.int .i64]→List HP→Prop:=fun t Bs=>
  (∃ l b,(openM m).2.1=some l∧(openM m).2.2=0∧t.1=some ⟨b,0,none⟩∧t.2.1=0∧Bs=[LogObj (some ⟨b,0,none⟩) p l,DevObj p (openM m).1]) ∨
  ((openM m).2.1=none∧(openM m).2.2≠0∧t.1=none∧t.2.1=(openM m).2.2∧Bs=[DevObj p (openM m).1])
theorem sweep_step {l:LM}{nms:List ByteArray}{k:Nat}{nm:ByteArray}{m:DM}(h:nms[k]? = some nm) :
    sweepM l (nms.drop k) m=if keepB l nm then sweepM l (nms.drop (k+1)) m else if (removeM m nm).2≠0 then removeM m nm else sweepM l (nms.drop (k+1)) (removeM m nm).1:=by
  have hk:=(List.getElem?_eq_some_iff.1 h).1
  rw [List.drop_eq_getElem_cons hk,(List.getElem?_eq_some_iff.1 h).2]
  rfl
theorem sOpen_spec (p:Option Addr) (m:DM):Ct Pr F_segs_Open [.pointer p] (.tup [none,none]) [.ptr,.int .i64] [DevObj p m] GTab (openPost p m):=by
  refine spec2 c_segs_Open fun B hr=>?_
  haveI:FroP B GTab:=⟨hr,fun _ _ h s=>GTab.mono _ _ h s⟩
  unfold segs_Open
  refine xcl (drop_spec p m newN) rdb ?_
  rintro ⟨t,_⟩ _ ⟨ht,rfl⟩
  simp only at ht;subst ht
  refine app1 (ca1 (xif (fun h=>?_) (fun h=>?_)))
  · have h:(dropM m newN).2≠0:=by simpa using h
    have e:=open_e1 h
    exact xret (.inr ⟨by rw [e],by rw [e];exact h,rfl,by rw [e],by rw [e]⟩)
  have h1:¬ (dropM m newN).2≠0:=by simpa using h
  refine xcl (readHead_spec p (dropM m newN).1) rdb ?_
  rintro ⟨t,t1,t2,_⟩ _ ⟨ht,ht1,ht2,rfl⟩
  simp only at ht ht1 ht2;subst ht ht1 ht2
  refine app1 (ca3 (xif (fun h=>?_) (fun h=>?_)))
  · have h:(headM (dropM m newN).1).2.2≠0:=by simpa using h
    have e:=open_e2 h1 h
    exact xret (.inr ⟨by rw [e],by rw [e];exact h,rfl,by rw [e],by rw [e]⟩)
  have h2:¬ (headM (dropM m newN).1).2.2≠0:=by simpa using h
  have he3:=fun {m' l e} h3 he=>open_e3 (m:=m) h1 h2 (m':=m') (l:=l) (e:=e) h3 he
  have he4:=fun {m' l} h3 {w} hw=>open_e4 (m:=m) h1 h2 (m':=m') (l:=l) h3 (w:=w) hw
  have hb:=head_bounds (dropM m newN).1 (by simpa using h2)
  refine xfact 0 (P1:=DevObj p (dropM m newN).1) (fun g hg=>hg.1) fun hI=>?_
  generalize hm1:(dropM m newN).1=m1 at *
  generalize hn0:(headM m1).1=n0 at *
  generalize hf0:(headM m1).2.1=f0 at *
  obtain ⟨hb1,hb2⟩:=hb
  have hstart:=ReadI.start (n0:=n0) hI hb2
  generalize hR0:readL 70 m1 n0 ⟨n0,f0,[],0⟩=R0 at *
  refine xnew fun b=>?_
  refine xnone SEG ?_
  refine xadd (A:=Each SegR [] []) trivial ?_
  refine xfold [Blk b [.pointer p,.int .i64 n0,.int .i64 f0,.slice none 0 0,.int .i64 0],Ar SEG ⟨none,0,0⟩ [],Each SegR [] []] (LogObj (some ⟨b,0,none⟩) p ⟨n0,f0,[],0⟩) (fun g hg=>⟨hstart.linv hb1 hb2,b,⟨none,0,0⟩,[],rfl,hg⟩) ?_
  refine xjoin1 (fun(n1:Int) As'=>∃ (m':DM) (l':LM),R0=(m',l',0)∧ReadI n0 f0 m' l'∧As'=[LogObj (some ⟨b,0,none⟩) p l',DevObj p m']) (fun K hK=>?_) ?_
  · refine xloop1 (fun fuel (n:Int) As'=>∃ (m':DM) (l':LM),n=n0+l'.segs.length∧fuel+l'.segs.length=70∧R0=readL fuel m' n l'∧ReadI n0 f0 m' l'∧As'=[LogObj (some ⟨b,0,none⟩) p l',DevObj p m']) 70 ⟨m1,⟨n0,f0,[],0⟩,by simp,rfl,by simpa using hR0.symm,hstart,rfl⟩ ?_
    rintro fuel n As' K2 ⟨m',l',rfl,hfu,heq,hR,rfl⟩ hK2
    have hfew:=hR.few hb1.1
    obtain ⟨fuel,rfl⟩:∃ k,fuel=k+1:=⟨fuel - 1,by omega⟩
    have hlen:=read_len hR.inv (fN (n0+l'.segs.length))
    refine xfile (by omega) (by omega) ?_
    refine xcl (Read_spec p m' (fN (n0+l'.segs.length))) rdb ?_
    rintro ⟨s,r,_⟩ _ ⟨hr4,rfl⟩
    simp only at hr4;subst hr4
    rw [readL] at heq
    refine app2 (ca2 (xif (fun h4=>?_) (fun h4=>?_)))
    · have h4:(readM m' (fN (n0+l'.segs.length))).2≠0:=by simpa using h4
      rw [if_pos h4] at heq
      exact xuse [LogObj (some ⟨b,0,none⟩) p l',DevObj p m'] (hK _ _ ⟨m',l',heq,hR,rfl⟩)
    have h4:¬ (readM m' (fN (n0+l'.segs.length))).2≠0:=by simpa using h4
    rw [if_neg h4] at heq
    have hmore:=hR.more hb1.1 (by simpa using h4)
    refine xlen s fun hsl hsc=>?_
    replace hsl:(readM m' (fN (n0+l'.segs.length))).1.length=s.n:=hsl
    refine xcl (pre:=[]) (Scan_spec s (readM m' (fN (n0+l'.segs.length))).1 hlen hsc) rdb ?_
    rintro ⟨s1,r1,_⟩ _ ⟨h5,rs,rfl⟩
    simp only at h5;subst h5
    have hsu:=scan_len (readM m' (fN (n0+l'.segs.length))).1
    have hme:mendM m' (n0+l'.segs.length)=(let t:=if (scanN (readM m' (fN (n0+l'.segs.length))).1).2<(readM m' (fN (n0+l'.segs.length))).1.length then truncM m' (fN (n0+l'.segs.length)) (scanN (readM m' (fN (n0+l'.segs.length))).1).2 else (m',0);if t.2≠0 then t else syncM t.1 (fN (n0+l'.segs.length))):=rfl
    generalize hbs:(readM m' (fN (n0+l'.segs.length))).1=bs at *
    generalize hrows:(scanN bs).1=rows at *
    generalize hu:(scanN bs).2=u at *
    simp only [hrows,hu] at heq
    simp only at hme
    refine app2 (ca2 ?_)
    refine xjoin0 (fun As'=>∃ m2:DM,mendM m' (n0+l'.segs.length)=syncM m2 (fN (n0+l'.segs.length))∧As'=[LogObj (some ⟨b,0,none⟩) p l',DevObj p m2,Ar SL s1 rs,Each (Ar U8) rs rows]) (fun K3 hK3=>?_) ?_
    · refine xif_dec (fun h5=>?_) (fun h5=>?_)
      · replace h5:u<bs.length:=by omega
        rw [if_pos h5] at hme
        refine xfile (by omega) (by omega) ?_
        refine xcl (Truncate_spec p m' (fN (n0+l'.segs.length)) (u:Int)) rdb ?_
        rintro ⟨t,_⟩ _ ⟨ht,rfl⟩
        simp only at ht;subst ht
        refine app1 (ca1 (xif (fun h6=>?_) (fun h6=>?_)))
        · have h6:(truncM m' (fN (n0+l'.segs.length)) (u:Int)).2≠0:=by simpa using h6
          rw [if_pos h6] at hme
          rw [hme,if_pos h6] at heq
          have e:=he3 heq h6
          exact xuse [DevObj p (truncM m' (fN (n0+l'.segs.length)) (u:Int)).1] (xret (.inr ⟨by rw [e],by rw [e];exact h6,rfl,by rw [e],by rw [e]⟩))
        · have h6:¬ (truncM m' (fN (n0+l'.segs.length)) (u:Int)).2≠0:=by simpa using h6
          rw [if_neg h6] at hme
          exact xuse [LogObj (some ⟨b,0,none⟩) p l',DevObj p (truncM m' (fN (n0+l'.segs.length)) (u:Int)).1,Ar SL s1 rs,Each (Ar U8) rs rows] (hK3 _ ⟨_,hme,rfl⟩)
      · replace h5:¬ u<bs.length:=by omega
        rw [if_neg h5] at hme
        rw [if_neg (by simp)] at hme
        exact xuse [LogObj (some ⟨b,0,none⟩) p l',DevObj p m',Ar SL s1 rs,Each (Ar U8) rs rows] (hK3 _ ⟨_,hme,rfl⟩)
    rintro As2 ⟨m2,hm2,rfl⟩
    rw [hm2] at heq hmore
    refine xfile (by omega) (by omega) ?_
    refine xcl (Sync_spec p m2 (fN (n0+l'.segs.length))) rdb ?_
    rintro ⟨t,_⟩ _ ⟨ht,rfl⟩
    simp only at ht;subst ht
    refine app1 (ca1 (xif (fun h6=>?_) (fun h6=>?_)))
    · have h6:(syncM m2 (fN (n0+l'.segs.length))).2≠0:=by simpa using h6
      rw [if_pos h6] at heq
      have e:=he3 heq h6
      exact xuse [DevObj p (syncM m2 (fN (n0+l'.segs.length))).1] (xret (.inr ⟨by rw [e],by rw [e];exact h6,rfl,by rw [e],by rw [e]⟩))
    have h6:¬ (syncM m2 (fN (n0+l'.segs.length))).2≠0:=by simpa using h6
    rw [if_neg h6] at heq
    generalize (syncM m2 (fN (n0+l'.segs.length))).1=m3 at *
    refine xdraw (xnil ?_)
    refine xlog 1 fun hi b' s2 cs hq hf hs=>?_
    obtain rfl:b=b':=by cases hq;rfl
    refine xget (h:=?_)
    refine xcl (next_raw b p l' s2 cs hs hf hi) rdb ?_
    rintro ⟨t,_⟩ _ ⟨ht,rfl⟩
    simp only at ht;subst ht
    refine app2 (ca1 (xchk (h:=xnew fun b1=>?_)))
    have hcl:cs.length≤64:=by rw [hf.len];exact hfew
    refine xapp1 (E:=SEG) ((n0+l'.segs.length,l'.next,(u:Int),s1):CS) (hb:=by omega) (h:=fun s3=>xnil (xset (h:=?_)))
    have hLI:=hmore.linv hb1 hb2
    refine xfold [Blk b (logCells p { l' with segs:=l'.segs++[⟨n0+l'.segs.length,l'.next,(u:Int),rows⟩] } s3),Ar SEG s3 (cs++[(n0+l'.segs.length,l'.next,(u:Int),s1)]),Each SegR cs l'.segs,Ar SL s1 rs,Each (Ar U8) rs rows] (LogObj (some ⟨b,0,none⟩) p { l' with segs:=l'.segs++[⟨n0+l'.segs.length,l'.next,(u:Int),rows⟩] }) (fun g hg=>⟨hLI,b,s3,cs++[(n0+l'.segs.length,l'.next,(u:Int),s1)],rfl,?_⟩) ?_
    · refine star_cons (l:=[Ar SEG s3 (cs++[(n0+l'.segs.length,l'.next,(u:Int),s1)]),Each SegR cs l'.segs,Ar SL s1 rs,Each (Ar U8) rs rows]) (fun h hh=>?_) hg
      refine star_cons (l:=[Each SegR cs l'.segs,Ar SL s1 rs,Each (Ar U8) rs rows]) (fun h hh=>?_) hh
      refine star_in (each_snoc ?_)
      exact star_cons (l:=[Ar SL s1 rs,Each (Ar U8) rs rows]) (fun h hh=>star_in ⟨rfl,rfl,rfl,rs,hh⟩) hh
    refine xif_dec (fun h7=>?_) (fun h7=>?_)
    · replace h7:u<bs.length:=by omega
      rw [if_pos h7] at heq
      exact xuse [LogObj (some ⟨b,0,none⟩) p { l' with segs:=l'.segs++[⟨n0+l'.segs.length,l'.next,(u:Int),rows⟩] },DevObj p m3] (hK _ _ ⟨m3,_,heq,hmore,rfl⟩)
    · replace h7:¬ u<bs.length:=by omega
      rw [if_neg h7] at heq
      rw [wrap_id _ (by omega) (by omega)]
      exact xuse [LogObj (some ⟨b,0,none⟩) p { l' with segs:=l'.segs++[⟨n0+l'.segs.length,l'.next,(u:Int),rows⟩] },DevObj p m3] (hK2 fuel _ _ (by omega) ⟨m3,_,by simp;omega,by simp;omega,heq,hmore,rfl⟩)
  rintro n1 As2 ⟨m',l',heq,hR,rfl⟩
  have hLI:=hR.linv hb1 hb2
  have hfin:=he4 heq rfl
  refine xfact 1 (P1:=DevObj p m') (fun g hg=>hg.1) fun hI'=>?_
  have hnl:=hI'.len
  have hnames:∀ nm∈m'.fs.map (·.nm),nm.size≤16:=by
    intro nm hnm
    obtain ⟨f,hf,rfl⟩:=List.mem_map.1 hnm
    have:=hI'.names f hf
    unfold namedB at this
    simp only [Bool.and_eq_true,decide_eq_true_eq] at this
    omega
  refine xcl (Names_spec p m') rdb ?_
  rintro ⟨s4,_⟩ _ rfl
  refine app2 (ca1 ?_)
  have hnl:(m'.fs.map (·.nm)).length≤64:=by rw [List.length_map];exact hnl
  generalize hN:m'.fs.map (·.nm)=nms at *
  refine xlen s4 fun hl4 _=>?_
  replace hl4:nms.length=s4.n:=hl4
  refine xuse [LogObj (some ⟨b,0,none⟩) p l',DevObj p m',Ar Cf.ST s4 nms] ?_
  refine xloop1 (fun mm (x:Int) As'=>∃ (k:Nat) (mk:DM),x=(k:Int)∧mm=nms.length - k∧k≤nms.length∧sweepM l' nms m'=sweepM l' (nms.drop k) mk∧As'=[LogObj (some ⟨b,0,none⟩) p l',DevObj p mk,Ar Cf.ST s4 nms]) nms.length ⟨0,m',rfl,rfl,by omega,rfl,rfl⟩ ?_
  rintro mm x As' K ⟨k,mk,rfl,rfl,hk,hsw,rfl⟩ hK
  refine xif_dec (fun hp=>?_) (fun hp=>?_)
  · have hp:k<nms.length:=by omega
    refine xidxn (E:=Cf.ST) (xs:=nms) (s:=s4) (h1:=hp) (h:=fun nm hnm=>?_)
    refine xgetE (E:=Cf.ST) (xs:=nms) hnm (h:=xnew fun b2=>xset (h:=xget (h:=?_)))
    have hsz:=hnames nm (List.mem_of_getElem? hnm)
    rw [sweep_step hnm] at hsw
    refine xcall0 (isFile_spec nm (by omega)) rdb ?_
    rintro ⟨c,_⟩ _ ⟨hc,rfl⟩
    obtain rfl:c=isFileB nm.data.toList:=hc
    refine app0 (ca1 ?_)
    refine xjoin1 (fun(c:Bool) As'=>c = !(keepB l' nm)∧As'=[LogObj (some ⟨b,0,none⟩) p l',DevObj p mk,Ar Cf.ST s4 nms,Blk b2 [.string nm]]) (fun K2 hK2=>?_) ?_
    · refine xif (fun h=>?_) (fun h=>?_)
      · refine xlog 1 fun hi b' s2 cs hq hf hs=>?_
        obtain rfl:b=b':=by cases hq;rfl
        refine xnil (xget (h:=?_))
        refine xcl (contains_raw b2 nm s2 cs l'.segs hf hs hi.few (fun x hx=>(hi.segs x hx).1)) rdb ?_
        rintro ⟨t,_⟩ _ ⟨ht,rfl⟩
        simp only at ht;subst ht
        refine app2 (ca1 (xlog_back (p:=p) (l:=l') b s2 cs hi ?_))
        refine xuse [LogObj (some ⟨b,0,none⟩) p l',DevObj p mk,Ar Cf.ST s4 nms,Blk b2 [.string nm]] (hK2 _ _ ⟨?_,rfl⟩)
        unfold keepB;rw [h];rfl
      · refine xuse [LogObj (some ⟨b,0,none⟩) p l',DevObj p mk,Ar Cf.ST s4 nms,Blk b2 [.string nm]] (hK2 _ _ ⟨?_,rfl⟩)
        unfold keepB;rw [h];rfl
    rintro c As2 ⟨rfl,rfl⟩
    refine xjoin (xif (fun h=>?_) (fun h=>?_))
    · have h:¬ keepB l' nm=true:=by simpa using h
      rw [if_neg h] at hsw
      refine xget (h:=?_)
      refine xcl (Remove_spec p mk nm) rdb ?_
      rintro ⟨t,_⟩ _ ⟨ht,rfl⟩
      simp only at ht;subst ht
      refine app1 (ca1 (xif (fun h2=>?_) (fun h2=>?_)))
      · have h2:(removeM mk nm).2≠0:=by simpa using h2
        rw [if_pos h2] at hsw
        rw [hsw,if_pos h2] at hfin
        exact xuse [DevObj p (removeM mk nm).1] (xret (.inr ⟨by rw [hfin],by rw [hfin];exact h2,rfl,by rw [hfin],by rw [hfin]⟩))
      · have h2:¬ (removeM mk nm).2≠0:=by simpa using h2
        rw [if_neg h2] at hsw
        rw [wrap_succ k (by omega)]
        exact xuse [LogObj (some ⟨b,0,none⟩) p l',DevObj p (removeM mk nm).1,Ar Cf.ST s4 nms] (hK _ _ _ (by omega) ⟨k+1,_,rfl,rfl,by omega,hsw,rfl⟩)
    · have h:keepB l' nm=true:=by simpa using h
      rw [if_pos h] at hsw
      rw [wrap_succ k (by omega)]
      exact xuse [LogObj (some ⟨b,0,none⟩) p l',DevObj p mk,Ar Cf.ST s4 nms] (hK _ _ _ (by omega) ⟨k+1,mk,rfl,rfl,by omega,hsw,rfl⟩)
  · obtain rfl:k=nms.length:=by omega
    rw [List.drop_length] at hsw
    have hsw:sweepM l' nms m'=(mk,0):=hsw
    rw [hsw,if_neg (by simp)] at hfin
    refine xlog 0 fun hi b' s2 cs hq hf hs=>?_
    obtain rfl:b=b':=by cases hq;rfl
    refine xcl (next_raw b p l' s2 cs hs hf hi) rdb ?_
    rintro ⟨t,_⟩ _ ⟨ht,rfl⟩
    simp only at ht;subst ht
    refine app2 (ca1 (xnil (xset (h:=?_))))
    have hnx:=hi.next
    refine xlog_back (p:=p) (l:={ l' with safe:=l'.next }) b s2 cs ⟨hi.n,hi.first,hi.segs,hi.few,by simp only;omega,hi.chain⟩ ?_
    refine xuse [LogObj (some ⟨b,0,none⟩) p { l' with safe:=l'.next },DevObj p mk] (xret (.inl ⟨_,b,by rw [hfin],by rw [hfin],rfl,rfl,by rw [hfin]⟩))
end Go.Cx
namespace Go.Cx
open Go Go.Cf
set_option linter.unusedVariables false
set_option maxRecDepth 100000
variable {B:Base}{As F:List HP}
theorem chunkPut_long (p:Sl) (xs:List UInt8) (hm:1024<xs.length):Ct Pr F_chunk_Put [p.v] (.tup [none,none]) [.slice,.int .i64] [] (RAr U8 p xs) (fun t Bs=>t.1=⟨none,0,0⟩∧t.2.1=2∧Bs=[]):=by
  refine spec2 c_chunk_Put fun B hr=>?_
  have hp:=hr.1
  unfold chunk_Put
  exact xift (by simp;omega) (xret ⟨rfl,rfl,rfl⟩)
theorem sFirst_spec (q p:Option Addr) (l:LM):Ct Pr F_segs_Log_First [.pointer q] .one [.int .i64] [LogObj q p l] emp (fun t Bs=>t.1=l.lo∧Bs=[LogObj q p l]):=by
  refine spec1 c_segs_Log_First fun B _=>?_
  unfold segs_Log_First
  refine xlog 0 fun hi b s cs hq hf hs=>?_
  subst hq
  refine xnil (xget (h:=xif (fun h=>?_) (fun h=>?_)))
  · have h0:cs.length=0:=by simp at h;omega
    have e:l.segs=[]:=List.eq_nil_of_length_eq_zero (by rw [←hf.len];exact h0)
    refine xnil (xget (h:=xlog_back (p:=p) (l:=l) b s cs hi (xret ⟨?_,rfl⟩)))
    unfold LM.lo;rw [e]
  · have h0:0<cs.length:=by simp at h;omega
    refine xnil (xget (h:=?_))
    refine xidx (E:=SEG) (xs:=cs) (s:=s) (h0:=by decide) (h1:=by omega) (h:=fun c hc=>?_)
    refine xgetEj (E:=SEG) (xs:=cs) hc (h:=?_)
    refine xlog_back (p:=p) (l:=l) b s cs hi (xret ⟨?_,rfl⟩)
    unfold LM.lo
    cases e:l.segs with
    | nil=>have:=hf.len;rw [e,List.length_nil] at this;omega
    | cons sg r=>
      have:=hf.each 0 c sg hc (by rw [e];rfl)
      exact this.2.1
theorem sNext_spec (q p:Option Addr) (l:LM):Ct Pr F_segs_Log_Next [.pointer q] .one [.int .i64] [LogObj q p l] emp (fun t Bs=>t.1=l.next∧Bs=[LogObj q p l]):=by
  refine spec1 (φ:=XCall Pr F_segs_Log_Next [.pointer q] .one [.int .i64]) id fun B _=>?_
  refine xlog 0 fun hi b s cs hq hf hs=>?_
  subst hq
  refine xcl (next_raw b p l s cs hs hf hi) rdb ?_
  rintro ⟨t,_⟩ _ ⟨ht,rfl⟩
  simp only at ht;subst ht
  exact app2 (ca1 (xlog_back (p:=p) (l:=l) b s cs hi (xret ⟨rfl,rfl⟩)))
theorem find_first {α:Type}{p:α→Bool}:∀ {l:List α}{k:Nat}{x:α},l[k]? = some x→p x=true→(∀ j y,j<k→l[j]? = some y→p y=false)→l.find? p=some x
  | [],k,x,h,_,_=>by simp at h
  | y::l,0,x,h,hp,_=>by
    obtain rfl:y=x:=by simpa using h
    simp [List.find?_cons,hp]
  | y::l,k+1,x,h,hp,hn=>by
    have h0:=hn 0 y (by omega) rfl
    simp only [List.find?_cons,h0]
    exact find_first (k:=k) (by simpa using h) hp fun j z hj hz=>hn (j+1) z (by omega) (by simpa using hz)
theorem each_self {R:CS→Sg→HP}{cs:List CS}{ss:List Sg}{k:Nat}{c:CS}{s:Sg}(hc:cs[k]? = some c) (hs:ss[k]? = some s) {g:Frag}(h:star [R c s,Each R (cs.eraseIdx k) (ss.eraseIdx k)] g):Each R cs ss g:=by
  have h1:=(List.getElem?_eq_some_iff.1 hc).1
  have h2:=(List.getElem?_eq_some_iff.1 hs).1
  have:=each_put h1 h2 h
  have e1:cs.set k c=cs:=by
    apply List.ext_getElem?
    intro j
    by_cases e:k=j
    · subst e;rw [List.getElem?_set_self h1,hc]
    · rw [List.getElem?_set_ne e]
  have e2:ss.set k s=ss:=by
    apply List.ext_getElem?
    intro j
    by_cases e:k=j
    · subst e;rw [List.getElem?_set_self h2,hs]
    · rw [List.getElem?_set_ne e]
  rw [e1,e2] at this
  exact this
theorem xseg {cs:List CS}{ss:List Sg}{k:Nat}{c:CS}{s:Sg}{F:List HP}{φ:WP}(i:Nat) [q:Pick i As (Each SegR cs ss) F] (hc:cs[k]? = some c) (hs:ss[k]? = some s)
    (h:∀ rs,Ent B (Ar SL c.2.2.2 rs::Each (Ar U8) rs s.ps::Each SegR (cs.eraseIdx k) (ss.eraseIdx k)::F) φ):Ent B As φ:=by
  refine xopen i (fun Bs=>∃ rs,Bs=[Ar SL c.2.2.2 rs,Each (Ar U8) rs s.ps,Each SegR (cs.eraseIdx k) (ss.eraseIdx k)]) (fun g hg=>?_) ?_
  · have:=each_pick hg hc hs
    obtain ⟨a,b,⟨h1,h2,h3,rs,pa⟩,pb,d,sa,sb⟩:=this
    exact ⟨_,⟨rs,rfl⟩,(star_append [_,_] [_]).2 ⟨a,b,pa,pb,d,sa,sb⟩⟩
  · rintro _ ⟨rs,rfl⟩
    exact h rs
theorem seg_fold {rs:List Sl}{c:CS}{s:Sg}(h1:c.1=s.n) (h2:c.2.1=s.first) (h3:c.2.2.1=s.size) {l:List HP}{g:Frag}(h:star (Ar SL c.2.2.2 rs::Each (Ar U8) rs s.ps::l) g):star (SegR c s::l) g:=by
  obtain ⟨a,b,pa,pb,d,sa,sb⟩:=(star_append [Ar SL c.2.2.2 rs,Each (Ar U8) rs s.ps] l).1 h
  exact ⟨a,b,⟨h1,h2,h3,rs,pa⟩,pb,d,sa,sb⟩
theorem sGet_spec (q p:Option Addr) (l:LM) (n:Int) (hn:i64 n):Ct Pr F_segs_Log_Get [.pointer q,.int .i64 n] (.tup [none,none]) [.slice,.int .i64] [LogObj q p l] emp
    (fun t Bs=>t.2.1=(getL l n).2∧Bs=[LogObj q p l,Ar U8 t.1 (getL l n).1]):=by
  refine spec2 c_segs_Log_Get fun B _=>?_
  unfold segs_Log_Get
  refine xcl (sFirst_spec q p l) rdb ?_
  rintro ⟨t,_⟩ _ ⟨ht,rfl⟩
  simp only at ht;subst ht
  refine app1 (ca1 (xif_dec (fun h=>?_) (fun h=>?_)))
  · have e:getL l n=([],31):=by unfold getL;rw [if_pos h]
    rw [e]
    exact xnone U8 (xuse [LogObj q p l,Ar U8 ⟨none,0,0⟩ []] (xret ⟨rfl,rfl⟩))
  have hg:getL l n=match l.segs.find? fun s=>decide (n<s.next) with
      | some s=>((s.ps[(n - s.first).toNat]?).getD [],0)
      | none=>([],6):=by unfold getL;rw [if_neg h];rfl
  refine xlog 0 fun hi b s cs hq hf hs=>?_
  subst hq
  refine xnil (xget (h:=?_))
  have hfew:=hi.few
  have hcl:=hf.len
  refine xloop1 (fun m (x:Int) As'=>∃ k:Nat,x=(k:Int)∧m=cs.length - k∧k≤cs.length∧(∀ j y,j<k→l.segs[j]? = some y→decide (n<y.next)=false)∧As'=[Blk b (logCells p l s),Ar SEG s cs,Each SegR cs l.segs]) cs.length ⟨0,rfl,rfl,by omega,fun j y hj=>by omega,rfl⟩ ?_
  rintro m x As' K ⟨k,rfl,rfl,hk,hno,rfl⟩ hK
  refine xif_dec (fun hp=>?_) (fun hp=>?_)
  · have hlt:k<cs.length:=by omega
    obtain ⟨c,hc⟩:∃ c,cs[k]? = some c:=⟨_,List.getElem?_eq_getElem hlt⟩
    obtain ⟨sg,hsg⟩:∃ sg,l.segs[k]? = some sg:=⟨_,List.getElem?_eq_getElem (by rw [←hf.len];exact hlt)⟩
    obtain ⟨g1,g2,g3,g4,g5⟩:=hf.each k c sg hc hsg
    obtain ⟨b1,b2,b3,b4,b5⟩:=hi.segs sg (List.mem_of_getElem? hsg)
    refine xidxn (E:=SEG) (xs:=cs) (s:=s) (h1:=hlt) (h:=fun _ _=>?_)
    refine xgetE (E:=SEG) (xs:=cs) hc (h:=?_)
    iterate 3 (refine xgetEj (E:=SEG) (xs:=cs) hc (h:=?_))
    refine xnew fun bk=>?_
    iterate 4 (refine xset (h:=?_))
    iterate 4 (refine xget (h:=?_))
    refine xcall0 (segnext_spec c.1 c.2.1 c.2.2.1 c.2.2.2) rdb ?_
    rintro ⟨t,_⟩ _ ⟨ht,rfl⟩
    simp only at ht;subst ht
    have hnx:IntKind.i64.wrap (c.2.1+(c.2.2.2.n:Int))=sg.next:=by
      rw [wrap_id _ (by omega) (by omega),g2,g4];rfl
    refine app0 (ca1 ?_)
    simp only
    rw [hnx]
    refine xif_dec (fun h2=>?_) (fun h2=>?_)
    · have hfind:=find_first hsg (p:=fun s=>decide (n<s.next)) (by simpa using h2) hno
      rw [hfind] at hg
      simp only at hg
      have hge:sg.first≤n:=by
        cases k with
        | zero=>
          have:l.lo=sg.first:=by
            unfold LM.lo
            cases e:l.segs with
            | nil=>rw [e] at hsg;simp at hsg
            | cons y r => rw [e] at hsg; obtain rfl : y = sg := by simpa using hsg
                          rfl
          rw [←this];omega
        | succ k=>
          obtain ⟨y,hy⟩:∃ y,l.segs[k]? = some y:=⟨_,List.getElem?_eq_getElem (by have:=(List.getElem?_eq_some_iff.1 hsg).1;omega)⟩
          have:=hno k y (by omega) hy
          have e:=hi.chain k y sg hy hsg
          simp only [decide_eq_false_iff_not] at this
          omega
      simp only [Sg.next] at h2
      have hidx:(n - sg.first).toNat<sg.ps.length:=by omega
      refine xget (h:=xget (h:=?_))
      rw [g2,wrap_id _ (by omega) (by omega),show n - sg.first=(((n - sg.first).toNat:Nat):Int) by omega]
      generalize hj:(n - sg.first).toNat=j at *
      refine xuse [Each SegR cs l.segs,Blk b (logCells p l s),Ar SEG s cs] ?_
      refine xseg (k:=k) 0 hc hsg fun rs=>?_
      refine xfact 1 (P1:=Each (Ar U8) rs sg.ps) (fun g hg=>hg.length) fun hrl=>?_
      obtain ⟨r,hr⟩:∃ r,rs[j]? = some r:=⟨_,List.getElem?_eq_getElem (by omega)⟩
      obtain ⟨y,hy⟩:∃ y,sg.ps[j]? = some y:=⟨_,List.getElem?_eq_getElem (by omega)⟩
      have hyl:=b5 y (List.mem_of_getElem? hy)
      rw [hy] at hg
      refine xidxn (E:=SL) (xs:=rs) (s:=c.2.2.2) (h1:=by omega) (h:=fun _ _=>?_)
      refine xgetE (E:=SL) (xs:=rs) hr (h:=?_)
      refine xcl (pre:=[]) (SClone_spec r y (by omega)) (rds_pick 1 (fun g hg=>each_read (R:=Ar U8) (S:=fun sl row=>RAr U8 sl row) (fun _ _ _ _ h s=>h.mono s) (fun _ _ _ h=>h.read) hg hr hy) (fun _ _ h s=>h.mono s)) ?_
      rintro ⟨t,_⟩ _ rfl
      refine app1 (ca1 ?_)
      refine xfold [Ar SL c.2.2.2 rs,Each (Ar U8) rs sg.ps,Each SegR (cs.eraseIdx k) (l.segs.eraseIdx k)] (Each SegR cs l.segs) (fun g hg=>each_self hc hsg (seg_fold g1 g2 g3 hg)) ?_
      refine xlog_back (p:=p) (l:=l) b s cs hi ?_
      rw [hg]
      exact xuse [LogObj (some ⟨b,0,none⟩) p l,Ar U8 t y] (xret ⟨rfl,rfl⟩)
    · rw [wrap_succ k (by omega)]
      refine xuse [Blk b (logCells p l s),Ar SEG s cs,Each SegR cs l.segs] (hK _ _ _ (by omega) ⟨k+1,rfl,rfl,by omega,fun j y hj hy=>?_,rfl⟩)
      by_cases e:j<k
      · exact hno j y e hy
      · obtain rfl:j=k:=by omega
        rw [hsg] at hy
        obtain rfl:=Option.some.inj hy
        simpa using h2
  · have hkl:k=l.segs.length:=by rw [←hf.len];omega
    have hfind:(l.segs.find? fun s=>decide (n<s.next))=none:=by
      rw [List.find?_eq_none]
      intro y hy
      obtain ⟨j,hj⟩:=List.mem_iff_getElem?.1 hy
      have:=hno j y (by have:=(List.getElem?_eq_some_iff.1 hj).1;omega) hj
      rw [this];decide
    rw [hfind] at hg
    simp only at hg
    rw [hg]
    exact xnone U8 (xlog_back (p:=p) (l:=l) b s cs hi (xuse [LogObj (some ⟨b,0,none⟩) p l,Ar U8 ⟨none,0,0⟩ []] (xret ⟨rfl,rfl⟩)))
end Go.Cx
namespace Go.Cx
open Go Go.Cf
set_option linter.unusedVariables false
set_option maxRecDepth 100000
variable {B:Base}{As F:List HP}
theorem addL_set {ss:List Sg}{s:Sg}(h:ss.getLast? = some s) (p:List UInt8):addL ss p=ss.set (ss.length - 1) { s with size:=s.size+(frameN p).length,ps:=s.ps++[p] }:=by
  unfold addL
  rw [h]
  simp only
  obtain ⟨r,rfl⟩:∃ r,ss=r++[s]:=by
    have hne:ss≠[]:=by rintro rfl;simp at h
    refine ⟨ss.dropLast,?_⟩
    have:=List.dropLast_concat_getLast hne
    rw [List.getLast?_eq_some_getLast hne] at h
    rw [←Option.some.inj h];exact this.symm
  rw [List.dropLast_concat,List.length_append,List.length_singleton,Nat.add_sub_cancel,List.set_append_right _ _ (Nat.le_refl _),Nat.sub_self];rfl
theorem syncL_log (m:DM) (l:LM):(syncL m l).2.1.segs=l.segs∧(syncL m l).2.1.n=l.n∧(syncL m l).2.1.first=l.first:=by
  unfold syncL
  split
  · exact ⟨rfl,rfl,rfl⟩
  split
  · exact ⟨rfl,rfl,rfl⟩
  simp only
  split<;>exact ⟨rfl,rfl,rfl⟩
theorem next_same {l l':LM}(h:l'.segs=l.segs) (h2:l'.first=l.first):l'.next=l.next:=by unfold LM.next LM.cur;rw [h,h2]
theorem sAppend_spec (q p:Option Addr) (m:DM) (l:LM) (s:Sl) (xs:List UInt8) (hn:l.segs=[]→l.safe=l.next) (hL:LInv (appendL m l xs).2.1) :
    Ct Pr F_segs_Log_Append [.pointer q,s.v] (.tup [none,none]) [.int .i64,.int .i64] [LogObj q p l,DevObj p m] ((RAr U8 s xs).and GTab)
    (fun t Bs=>t.1=(appendL m l xs).2.2.1∧t.2.1=(appendL m l xs).2.2.2∧Bs=[LogObj q p (appendL m l xs).2.1,DevObj p (appendL m l xs).1]):=by
  refine spec2 c_segs_Log_Append fun B hr=>?_
  haveI:Fro B s U8 xs:=⟨hr.1⟩
  haveI:FroP B GTab:=⟨hr.2,fun _ _ h s=>GTab.mono _ _ h s⟩
  unfold segs_Log_Append
  refine xlog 0 fun hi b s0 cs hq hf hs=>?_
  subst hq
  have hfew:=hi.few
  have hcl:=hf.len
  refine xcl (alive_raw b p m l s0) rdb ?_
  rintro ⟨t,_⟩ _ ⟨ht,rfl⟩
  simp only at ht;subst ht
  refine app2 (ca1 (xif (fun h=>?_) (fun h=>?_)))
  · have hd:m.down=true:=by
      cases e:m.down with
      | true=>rfl
      | false=>rw [e] at h;cases h
    have e:appendL m l xs=(m,l,0,10):=by unfold appendL;rw [if_pos hd]
    rw [if_pos hd,e]
    exact xlog_back (p:=p) (l:=l) b s0 cs hi (xret ⟨rfl,rfl,rfl⟩)
  have hd:m.down=false:=by
    cases e:m.down with
    | false=>rfl
    | true=>rw [e] at h;cases h
  by_cases hlen:xs.length>1024
  · refine xcl (pre:=[]) (chunkPut_long s xs hlen) rdb ?_
    rintro ⟨t,t1,_⟩ _ ⟨ht,ht1,rfl⟩
    simp only at ht ht1;subst ht ht1
    refine app0 (ca2 (xift rfl ?_))
    have e:appendL m l xs=(m,l,0,2):=by unfold appendL;rw [if_neg (by rw [hd];decide),if_pos hlen]
    rw [e]
    exact xlog_back (p:=p) (l:=l) b s0 cs hi (xret ⟨rfl,rfl,rfl⟩)
  refine xcl (pre:=[]) (chunkPut_spec s xs (by omega)) rdb ?_
  rintro ⟨sb,t1,_⟩ _ ⟨ht1,rfl⟩
  simp only at ht1;subst ht1
  refine app1 (ca2 (xiff rfl ?_))
  refine xcl (current_raw b p l s0 cs hs (by rw [hf.len];exact hi.few)) rdb ?_
  rintro ⟨t,_⟩ _ ⟨ht,rfl⟩
  simp only at ht;subst ht
  refine app2 (ca1 ?_)
  -- what the last segment says
  have hcase:(cs=[]∧l.segs=[]∧l.full=false∧l.curN=l.n)∨(∃ sg c,cs≠[]∧l.segs.getLast? = some sg∧cs[cs.length - 1]? = some c∧c.1=sg.n∧c.2.1=sg.first∧c.2.2.1=sg.size∧l.full=decide (sg.size≥1024)∧l.curN=sg.n):=by
    cases hc:l.segs.getLast? with
    | none=>
      have e:=(lf_nil hf).2 hc
      refine .inl ⟨e,List.getLast?_eq_none_iff.1 hc,?_,?_⟩
      · unfold LM.full LM.cur;rw [hc]
      · unfold LM.curN LM.cur;rw [hc]
    | some sg=>
      obtain ⟨c,g1,g2,g3,g4,g5,g6⟩:=last_get hf hc
      refine .inr ⟨sg,c,fun e=>?_,rfl,g1,g2,g3,g4,?_,?_⟩
      · have:=(lf_nil hf).1 e;rw [hc] at this;cases this
      · unfold LM.full LM.cur;rw [hc]
      · unfold LM.curN LM.cur;rw [hc]
  have hcurN:1≤l.curN∧l.curN≤2000000000000:=by
    rcases hcase with ⟨_,_,_,e⟩ | ⟨sg,c,_,hc,_,_,_,_,_,e⟩
    · rw [e];exact hi.n
    · rw [e];exact (hi.segs sg (List.mem_of_getLast? hc)).1
  have hnone:noneB (if cs=[] then none else some (s0.at 4 (cs.length - 1)))=decide (l.segs=[]):=by
    rcases hcase with ⟨e,e2,_⟩ | ⟨sg,c,e,hc,_⟩
    · rw [if_pos e,e2];rfl
    · rw [if_neg e]
      have:l.segs≠[]:=by rintro e;rw [e] at hc;simp at hc
      simp [this,noneB]
  refine xjoin1 (fun(c:Bool) As'=>c=l.full∧As'=[Blk b (logCells p l s0),Ar SEG s0 cs,Ar U8 sb (frameN xs),DevObj p m,Each SegR cs l.segs]) (fun K hK=>?_) ?_
  · rcases hcase with ⟨e,e2,e3,_⟩ | ⟨sg,c,e,hc,hc1,g1,g2,g3,e3,_⟩
    · rw [if_pos e]
      refine xiff rfl (xuse [Blk b (logCells p l s0),Ar SEG s0 cs,Ar U8 sb (frameN xs),DevObj p m,Each SegR cs l.segs] (hK _ _ ⟨e3.symm,rfl⟩))
    · rw [if_neg e]
      refine xift rfl (xnil (xgetEj (E:=SEG) (xs:=cs) hc1 (h:=?_)))
      refine xuse [Blk b (logCells p l s0),Ar SEG s0 cs,Ar U8 sb (frameN xs),DevObj p m,Each SegR cs l.segs] (hK _ _ ⟨?_,rfl⟩)
      rw [e3,g3]
  rintro c As2 ⟨rfl,rfl⟩
  refine xcl (next_raw b p l s0 cs hs hf hi) rdb ?_
  rintro ⟨t,_⟩ _ ⟨ht,rfl⟩
  simp only at ht;subst ht
  refine app2 (ca1 ?_)
  refine xjoin1 (fun(c:Bool) As'=>c=decide (l.next≥1099511627776∨(l.full=true∧l.curN=lastN))∧As'=[Blk b (logCells p l s0),Ar SEG s0 cs,Ar U8 sb (frameN xs),DevObj p m,Each SegR cs l.segs]) (fun K hK=>?_) ?_
  · refine xif_dec (fun h1=>?_) (fun h1=>?_)
    · exact xuse [Blk b (logCells p l s0),Ar SEG s0 cs,Ar U8 sb (frameN xs),DevObj p m,Each SegR cs l.segs] (hK _ _ ⟨by simp [h1],rfl⟩)
    · refine xjoin (xif (fun h2=>?_) (fun h2=>?_))
      · rcases hcase with ⟨e,e2,e3,_⟩ | ⟨sg,c,e,hc,hc1,g1,g2,g3,e3,e4⟩
        · rw [e3] at h2;cases h2
        · rw [if_neg e]
          refine xnil (xgetE (E:=SEG) (xs:=cs) hc1 (h:=?_))
          refine xuse [Blk b (logCells p l s0),Ar SEG s0 cs,Ar U8 sb (frameN xs),DevObj p m,Each SegR cs l.segs] (hK _ _ ⟨?_,rfl⟩)
          rw [g1,e4,h2,Bool.eq_iff_iff]
          simp [h1]
      · refine xuse [Blk b (logCells p l s0),Ar SEG s0 cs,Ar U8 sb (frameN xs),DevObj p m,Each SegR cs l.segs] (hK _ _ ⟨?_,rfl⟩)
        rw [h2];simp [h1]
  rintro c As2 ⟨rfl,rfl⟩
  refine xif_dec (fun h1=>?_) (fun h1=>?_)
  · have e:appendL m l xs=(m,l,0,12):=by unfold appendL;rw [if_neg (by rw [hd];decide),if_neg hlen,if_pos h1]
    rw [e]
    exact xlog_back (p:=p) (l:=l) b s0 cs hi (xuse [LogObj (some ⟨b,0,none⟩) p l,DevObj p m] (xret ⟨rfl,rfl,rfl⟩))
  have heq:appendL m l xs=(let y:=if l.full then syncL m l else (m,l,0)
      if y.2.2≠0 then (y.1,y.2.1,0,y.2.2)
      else
        let n:=if l.full then l.curN+1 else l.curN
        let a:=appendM y.1 (fN n) (frameN xs)
        if a.2≠0 then (a.1,y.2.1,0,a.2)
        else
          let ss:=if l.segs=[]∨l.full=true then l.segs++[⟨n,l.next,0,[]⟩] else l.segs
          (a.1,{ y.2.1 with segs:=addL ss xs },l.next,0)):=by
    unfold appendL;rw [if_neg (by rw [hd];decide),if_neg hlen,if_neg h1]
  refine xnil (xget (h:=?_))
  refine xjoin1 (fun(x:Int) As'=>x=l.curN∧As'=[Blk b (logCells p l s0),Ar SEG s0 cs,Ar U8 sb (frameN xs),DevObj p m,Each SegR cs l.segs]) (fun K hK=>?_) ?_
  · rcases hcase with ⟨e,e2,e3,e4⟩ | ⟨sg,c,e,hc,hc1,g1,g2,g3,e3,e4⟩
    · rw [if_pos e]
      exact xiff rfl (hK _ _ ⟨e4.symm,rfl⟩)
    · rw [if_neg e]
      refine xift rfl (xnil (xgetE (E:=SEG) (xs:=cs) hc1 (h:=?_)))
      exact hK _ _ ⟨by rw [g1,e4],rfl⟩
  rintro x As2 ⟨rfl,rfl⟩
  -- Sync, where the segment is full
  refine xjoin1 (fun(x:Int) As'=>∃ (m1:DM) (l1:LM),(if l.full then syncL m l else (m,l,0))=(m1,l1,0)∧l1.segs=l.segs∧l1.n=l.n∧l1.first=l.first∧x=(if l.full then l.curN+1 else l.curN)∧As'=[LogObj (some ⟨b,0,none⟩) p l1,DevObj p m1,Ar U8 sb (frameN xs)]) (fun K hK=>?_) ?_
  · refine xif (fun h2=>?_) (fun h2=>?_)
    · refine xlog_back (p:=p) (l:=l) b s0 cs hi ?_
      refine xcl (sSync_spec (some ⟨b,0,none⟩) p m l hn) rdb ?_
      rintro ⟨t,_⟩ _ ⟨ht,rfl⟩
      simp only at ht;subst ht
      rw [if_pos h2] at heq
      refine app2 (ca1 (xif (fun h3=>?_) (fun h3=>?_)))
      · have h3:(syncL m l).2.2≠0:=by simpa using h3
        simp only at heq
        rw [if_pos h3] at heq
        rw [heq]
        exact xuse [LogObj (some ⟨b,0,none⟩) p (syncL m l).2.1,DevObj p (syncL m l).1] (xret ⟨rfl,rfl,rfl⟩)
      · have h3:(syncL m l).2.2=0:=by simpa using h3
        obtain ⟨k1,k2,k3⟩:=syncL_log m l
        rw [wrap_id _ (by omega) (by omega)]
        refine xuse [LogObj (some ⟨b,0,none⟩) p (syncL m l).2.1,DevObj p (syncL m l).1,Ar U8 sb (frameN xs)] (hK _ _ ⟨_,_,?_,k1,k2,k3,by rw [if_pos h2],rfl⟩)
        rw [if_pos h2,←h3]
    · refine xlog_back (p:=p) (l:=l) b s0 cs hi ?_
      refine xuse [LogObj (some ⟨b,0,none⟩) p l,DevObj p m,Ar U8 sb (frameN xs)] (hK _ _ ⟨m,l,by rw [if_neg (by rw [h2];decide)],rfl,rfl,rfl,by rw [if_neg (by rw [h2];decide)],rfl⟩)
  rintro (n5:Int) As2 ⟨m1,l1,hy,hs1,hn1,hf1,hn5,rfl⟩
  rw [hy] at heq
  rw [←hn5] at heq
  simp only [ne_eq,not_true_eq_false,if_false] at heq
  have hn5b:1≤n5∧n5≤2000000000001:=by
    obtain ⟨c1,c2⟩:=hcurN
    rw [hn5]
    cases l.full
    · rw [if_neg (by decide)];omega
    · rw [if_pos rfl];omega
  refine xdraw (xnil ?_)
  refine xlog 0 fun hi1 b' s1 cs1 hq hfl1 hsl1=>?_
  obtain rfl:b=b':=by cases hq;rfl
  have hfew1:=hi1.few
  have hcl1:=hfl1.len
  refine xget (h:=?_)
  refine xfile (by omega) (by omega) (xchk (h:=?_))
  refine xcl (Append_spec p m1 (fN n5) sb (frameN xs)) rdb ?_
  rintro ⟨t,_⟩ _ ⟨ht,rfl⟩
  simp only at ht;subst ht
  refine app1 (ca1 (xif (fun h2=>?_) (fun h2=>?_)))
  · have h2:¬ (appendM m1 (fN n5) (frameN xs)).2=0:=by simpa using h2
    rw [if_pos h2] at heq
    rw [heq]
    refine xlog_back (p:=p) (l:=l1) b s1 cs1 hi1 ?_
    exact xuse [LogObj (some ⟨b,0,none⟩) p l1,DevObj p (appendM m1 (fN n5) (frameN xs)).1] (xret ⟨rfl,rfl,rfl⟩)
  have h2:(appendM m1 (fN n5) (frameN xs)).2=0:=by simpa using h2
  rw [if_neg (by rw [h2];simp)] at heq
  generalize (appendM m1 (fN n5) (frameN xs)).1=m2 at *
  have hnx:=next_same hs1 hf1
  refine xcl (next_raw b p l1 s1 cs1 hsl1 hfl1 hi1) rdb ?_
  rintro ⟨t,_⟩ _ ⟨ht,rfl⟩
  simp only at ht;subst ht
  rw [hnx]
  refine app2 (ca1 ?_)
  have hsbl:sb.n=(frameN xs).length→True:=fun _=>trivial
  refine xlen sb fun hsb _=>?_
  replace hsb:(frameN xs).length=sb.n:=hsb
  have hfl:=frame_len xs
  refine xjoin0 (fun As'=>∃ (s2:Sl) (cs2:List CS) (ss:List Sg),ss=(if l.segs=[]∨l.full=true then l.segs++[⟨n5,l.next,0,[]⟩] else l.segs)∧As'=[Blk b (logCells p l1 s2),Ar SEG s2 cs2,Each SegR cs2 ss,DevObj p m2]) (fun K hK=>?_) ?_
  · have hcond:(noneB (if cs=[] then none else some (s0.at 4 (cs.length - 1)))||l.full)=decide (l.segs=[]∨l.full=true):=by
      rw [hnone]
      cases l.full<;>simp
    rw [hcond]
    refine xif_dec (fun h3=>?_) (fun h3=>?_)
    · refine xnil (xget (h:=xnew fun b1=>?_))
      refine xapp1 (E:=SEG) ((n5,l.next,(0:Int),⟨none,0,0⟩):CS) (hb:=by omega) (h:=fun s2=>xnil (xset (h:=?_)))
      refine xnone SL ?_
      refine xadd (A:=Each (Ar U8) [] []) trivial ?_
      refine xfold [Each SegR cs1 l1.segs,Ar SL ⟨none,0,0⟩ [],Each (Ar U8) [] []] (Each SegR (cs1++[(n5,l.next,(0:Int),⟨none,0,0⟩)]) (l1.segs++[⟨n5,l.next,0,[]⟩])) (fun g hg=>each_snoc (star_cons (l:=[Ar SL ⟨none,0,0⟩ [],Each (Ar U8) [] []]) (fun h hh=>star_in ⟨rfl,rfl,rfl,[],hh⟩) hg)) ?_
      refine xuse [Blk b (logCells p l1 s2),Ar SEG s2 (cs1++[(n5,l.next,(0:Int),⟨none,0,0⟩)]),Each SegR (cs1++[(n5,l.next,(0:Int),⟨none,0,0⟩)]) (l1.segs++[⟨n5,l.next,0,[]⟩]),DevObj p m2] (hK _ ⟨s2,_,_,?_,rfl⟩)
      rw [if_pos h3,hs1]
    · refine xuse [Blk b (logCells p l1 s1),Ar SEG s1 cs1,Each SegR cs1 l1.segs,DevObj p m2] (hK _ ⟨s1,cs1,l1.segs,by rw [if_neg h3,hs1],rfl⟩)
  rintro As2 ⟨s2,cs2,ss,hss,rfl⟩
  rw [←hss] at heq
  have hssn:ss≠[]:=by
    rw [hss]
    split
    · simp
    · rename_i h3
      exact fun e=>h3 (.inl e)
  have hssl:ss.length≤65:=by
    rw [hss]
    split
    · rw [List.length_append,List.length_singleton];omega
    · omega
  refine xfact 2 (P1:=Each SegR cs2 ss) (fun g hg=>lf_of hg) fun hf2=>?_
  refine xlen s2 fun hs2 _=>?_
  replace hs2:cs2.length=s2.n:=hs2
  have hcl2:=hf2.len
  have hL2:=hL
  rw [heq] at hL2
  have hsslen:ss.length≤64:=by
    have:=hL2.few
    obtain ⟨sg,hsg⟩:∃ sg,ss.getLast? = some sg:=⟨_,List.getLast?_eq_some_getLast hssn⟩
    simp only at this
    rw [addL_set hsg,List.length_set] at this
    exact this
  refine xcl (current_raw b p l1 s2 cs2 hs2.symm (by omega)) rdb ?_
  rintro ⟨t,_⟩ _ ⟨ht,rfl⟩
  simp only at ht;subst ht
  have hne2:cs2≠[]:=fun e=>hssn (List.eq_nil_of_length_eq_zero (by rw [←hcl2,e];rfl))
  obtain ⟨sg,hsg⟩:∃ sg,ss.getLast? = some sg:=⟨_,List.getLast?_eq_some_getLast hssn⟩
  obtain ⟨c,g1,g2,g3,g4,g5,g6⟩:=last_get hf2 hsg
  have hsgk:ss[cs2.length - 1]? = some sg:=by rw [hcl2];exact getLast_get hsg
  have hlt:=(List.getElem?_eq_some_iff.1 g1).1
  have hbnd:(0≤sg.size∧sg.size≤16777216)∧(sg.ps.length:Int)≤sg.size:=by
    have hm:=List.mem_of_getLast? hsg
    rw [hss] at hm
    have inl:sg∈l.segs→(0≤sg.size∧sg.size≤16777216)∧(sg.ps.length:Int)≤sg.size:=fun hm=>⟨(hi.segs sg hm).2.2.1,(hi.segs sg hm).2.2.2.1⟩
    split at hm
    · rcases List.mem_append.1 hm with hm | hm
      · exact inl hm
      · obtain rfl:=List.mem_singleton.1 hm
        simp
    · exact inl hm
  refine app2 (ca1 ?_)
  rw [if_neg hne2]
  refine xnil (xgetEj (E:=SEG) (xs:=cs2) g1 (h:=xnil ?_))
  rw [g4,wrap_id _ (by omega) (by omega)]
  refine xsetEj (E:=SEG) (xs:=cs2) ((c.1,c.2.1,sg.size+(sb.n:Int),c.2.2.2):CS) g1 rfl (by decide) rfl ?_
  have g1':(cs2.set (cs2.length - 1) ((c.1,c.2.1,sg.size+(sb.n:Int),c.2.2.2):CS))[cs2.length - 1]? = some ((c.1,c.2.1,sg.size+(sb.n:Int),c.2.2.2):CS):=by
    rw [List.getElem?_set_self hlt]
  generalize hk:cs2.length - 1=k at *
  refine xdraw (xnil (xgetEj (E:=SEG) (xs:=cs2.set k ((c.1,c.2.1,sg.size+(sb.n:Int),c.2.2.2):CS)) g1' (h:=?_)))
  refine xcl (pre:=[]) (SClone_spec s xs (by omega)) rdb ?_
  rintro ⟨s4,_⟩ _ rfl
  refine app1 (ca1 (xchkEj (E:=SEG) (xs:=cs2.set k ((c.1,c.2.1,sg.size+(sb.n:Int),c.2.2.2):CS)) g1' (h:=xnew fun b1=>?_)))
  refine xuse [Each SegR cs2 ss,Blk b1 [s4.v],Ar U8 s4 xs,Ar SEG s2 (cs2.set k ((c.1,c.2.1,sg.size+(sb.n:Int),c.2.2.2):CS)),Blk b (logCells p l1 s2),DevObj p m2] ?_
  refine xseg (k:=k) 0 g1 hsgk fun rs=>?_
  refine xfact 1 (P1:=Each (Ar U8) rs sg.ps) (fun g hg=>hg.length) fun hrl=>?_
  refine xapp1 (E:=SL) s4 (hb:=by omega) (h:=fun s5=>xnil ?_)
  refine xsetEj (E:=SEG) (xs:=cs2.set k ((c.1,c.2.1,sg.size+(sb.n:Int),c.2.2.2):CS)) ((c.1,c.2.1,sg.size+(sb.n:Int),s5):CS) g1' rfl (by decide) rfl ?_
  rw [List.set_set]
  have hadd:=addL_set hsg xs
  have hkk:ss.length - 1=k:=by rw [←hcl2];exact hk
  rw [hkk] at hadd
  rw [heq]
  refine xfold [Ar SL s5 (rs++[s4]),Each (Ar U8) rs sg.ps,Ar U8 s4 xs,Each SegR (cs2.eraseIdx k) (ss.eraseIdx k)] (Each SegR (cs2.set k ((c.1,c.2.1,sg.size+(sb.n:Int),s5):CS)) (addL ss xs)) (fun g hg=>?_) ?_
  · rw [hadd]
    refine each_put hlt (by have:=(List.getElem?_eq_some_iff.1 hsgk).1;exact this) ?_
    have h1:star [Ar SL s5 (rs++[s4]),Each (Ar U8) (rs++[s4]) (sg.ps++[xs]),Each SegR (cs2.eraseIdx k) (ss.eraseIdx k)] g:=by
      refine star_cons (l:=[Each (Ar U8) rs sg.ps,Ar U8 s4 xs,Each SegR (cs2.eraseIdx k) (ss.eraseIdx k)]) (fun h hh=>?_) hg
      obtain ⟨a,e,pa,pb,d,sa,sb'⟩:=(star_append [Each (Ar U8) rs sg.ps,Ar U8 s4 xs] [Each SegR (cs2.eraseIdx k) (ss.eraseIdx k)]).1 hh
      exact ⟨a,e,each_snoc pa,pb,d,sa,sb'⟩
    obtain ⟨a,e,pa,pb,d,sa,sb'⟩:=(star_append [Ar SL s5 (rs++[s4]),Each (Ar U8) (rs++[s4]) (sg.ps++[xs])] [Each SegR (cs2.eraseIdx k) (ss.eraseIdx k)]).1 h1
    exact ⟨a,e,⟨g2,g3,by simp only;rw [hsb],_,pa⟩,pb,d,sa,sb'⟩
  refine xlog_back (p:=p) (l:={ l1 with segs:=addL ss xs }) b s2 (cs2.set k ((c.1,c.2.1,sg.size+(sb.n:Int),s5):CS)) hL2 ?_
  exact xuse [LogObj (some ⟨b,0,none⟩) p { l1 with segs:=addL ss xs },DevObj p m2] (xret ⟨rfl,rfl,rfl⟩)
end Go.Cx
