/-
  From other seats: works14_spec, sSafe_spec, sSegments_spec.
  From other seats: append_room, trim_room, openM_room.
  A log, and the document's, each on its device: whatever is done, both answer alike.
  The law of the pair: for any row of calls.
  What the law of the pair is asked: heads, and files that another spoilt.
  Heads about their ends; the chapter's examples of a log.
-/
import Derived.Test.YtffoldlhonbafaaGreatDoorMX1
import Derived.Test.YtffoldlhonbafaaGreatDoorS1
import Derived.Test.YtffoldlhonbafaaGreatDoorA4
import Derived.Test.YtffoldlhonbafaaGreatDoorVY
import Derived.Test.YtffoldlhonbafaaGreatDoorT1
namespace Go.Cx
open Go Go.Cf Go.Cx
set_option linter.unusedVariables false
set_option maxRecDepth 100000
variable {B:Base}{As F:List HP}{α:Type}
theorem sSafe_spec (q p:Option Addr) (l:LM):Ct Pr F_segs_Log_Safe [.pointer q] .one [.int .i64] [LogObj q p l] emp (fun t Bs=>t.1=l.safe∧Bs=[LogObj q p l]):=by
  refine spec1 c_segs_Log_Safe fun B _=>?_
  unfold segs_Log_Safe
  refine xlog 0 fun hi b s cs hq hf hs=>?_
  subst hq
  exact xnil (xget (h:=xlog_back (p:=p) (l:=l) b s cs hi (xret ⟨rfl,rfl⟩)))
theorem sSegments_spec (q p:Option Addr) (l:LM):Ct Pr F_segs_Log_Segments [.pointer q] .one [.int .i64] [LogObj q p l] emp (fun t Bs=>t.1=(l.segs.length:Int)∧Bs=[LogObj q p l]):=by
  refine spec1 c_segs_Log_Segments fun B _=>?_
  unfold segs_Log_Segments
  refine xlog 0 fun hi b s cs hq hf hs=>?_
  subst hq
  exact xnil (xget (h:=xlog_back (p:=p) (l:=l) b s cs hi (xret ⟨by rw [hs,hf.len],rfl⟩)))
theorem dinv_new {room:Int}(h:0≤room∧room≤16777216):DInv ⟨false,false,0,room,[]⟩:=
  ⟨List.Pairwise.nil,fun f hf=>by simp at hf,fun f hf=>by simp at hf,by simp [usedN];omega,h,by simp,⟨⟨by simp,by simp⟩,fun h=>by cases h⟩⟩
abbrev k14:DM:=⟨false,false,0,4096,[]⟩
def wA:=appendL k14 (logOf [] 0) [1]
def wB:=appendL wA.1 wA.2.1 []
def wC:=syncL wB.1 wB.2.1
def wD:=appendL wC.1 wC.2.1 [2]
def wE:=openM (wakeM wD.1 0)
theorem k14_inv:DInv k14:=dinv_new (by decide)
theorem relA:∃ (gs:List (List (List UInt8))) (safe:Nat),wA.2.1=logOf gs safe∧Rel wA.1 gs safe∧gs.flatten.length≤1:=by
  obtain ⟨gs,safe,h1,h2,_,_,_,h3⟩:=(rel_empty k14_inv rfl).step [1] (by decide)
  refine ⟨gs,safe,h1,h2,?_⟩
  rcases h3 with ⟨_,_,e⟩ | ⟨_,_,e⟩<;>rw [e] <;> simp
theorem relB:∃ (gs:List (List (List UInt8))) (safe:Nat),wB.2.1=logOf gs safe∧Rel wB.1 gs safe∧gs.flatten.length≤2:=by
  obtain ⟨gs0,safe0,e0,r0,l0⟩:=relA
  obtain ⟨gs,safe,h1,h2,_,_,_,h3⟩:=r0.step [] (by omega)
  rw [←e0] at h1 h2
  refine ⟨gs,safe,h1,h2,?_⟩
  rcases h3 with ⟨_,_,e⟩ | ⟨_,_,e⟩<;>rw [e]
  · rw [List.length_append,List.length_singleton];omega
  · omega
theorem relC:∃ (gs:List (List (List UInt8))) (safe:Nat),wC.2.1=logOf gs safe∧Rel wC.1 gs safe∧gs.flatten.length≤2:=by
  obtain ⟨gs0,safe0,e0,r0,l0⟩:=relB
  obtain ⟨safe,h1,h2,_⟩:=r0.sstep
  rw [←e0] at h1 h2
  exact ⟨gs0,safe,h1,h2,l0⟩
theorem relD:∃ (gs:List (List (List UInt8))) (safe:Nat),wD.2.1=logOf gs safe∧Rel wD.1 gs safe∧gs.flatten.length≤3:=by
  obtain ⟨gs0,safe0,e0,r0,l0⟩:=relC
  obtain ⟨gs,safe,h1,h2,_,_,_,h3⟩:=r0.step [2] (by omega)
  rw [←e0] at h1 h2
  refine ⟨gs,safe,h1,h2,?_⟩
  rcases h3 with ⟨_,_,e⟩ | ⟨_,_,e⟩<;>rw [e]
  · rw [List.length_append,List.length_singleton];omega
  · omega
theorem kn1:wD.2.2.1=2∧wD.2.2.2=0∧wD.2.1.next=3∧wD.2.1.safe=2:=by decide +kernel
theorem kn2:wE.2.2=0∧wE.2.1.map (fun l=>(l.next,l.safe,l.lo,getL l 0))=some (2,2,0,([1],0)):=by decide +kernel
theorem linv_of {l:LM}{m:DM}{n:Nat}(h:∃ (gs:List (List (List UInt8))) (safe:Nat),l=logOf gs safe∧Rel m gs safe∧gs.flatten.length≤n) (hn:n≤1000):LInv l∧(l.segs=[]→l.safe=l.next):=by
  obtain ⟨gs,safe,rfl,hr,hl⟩:=h
  exact ⟨hr.linv (by omega),hr.calm⟩
theorem works14_spec:Ct Pr F_law14_works [] .one [.bool] [] GTab (fun t Bs=>t.1=true∧Bs=[]):=by
  refine spec1 c_law14_works fun B hr=>?_
  haveI:FroP B GTab:=⟨hr,fun _ _ h s=>GTab.mono _ _ h s⟩
  unfold law14_works
  refine xcall0 (New_spec 4096) rdb ?_
  rintro ⟨q,r,_⟩ _ (⟨h,_⟩ | ⟨_,_,h1,⟨b,h2⟩,rfl⟩)
  · omega
  simp only at h1 h2;subst h1 h2
  refine app1 (ca2 (xiff rfl ?_))
  refine xcl (sOpen_spec (some ⟨b,0,none⟩) k14) rdb ?_
  have he:=open_empty k14_inv rfl rfl
  rintro ⟨q1,r1,_⟩ _ (⟨l,b1,e1,e2,e3,e4,rfl⟩ | ⟨e1,_⟩)
  rotate_left
  · rw [he] at e1;cases e1
  simp only at e3 e4;subst e3 e4
  rw [he] at e1
  obtain rfl:=Option.some.inj e1
  rw [he]
  refine app2 (ca2 (xjoin (xiff rfl (xiff rfl (xnew fun b2=>?_)))))
  refine xfold1 (Q:=Ar U8 ⟨some ⟨b2,0,none⟩,1,1⟩ [1]) 0 (fun g hg=>⟨[],blk_ar [1] 1 rfl rfl hg⟩) ?_
  refine xcl (sAppend_spec (some ⟨b1,0,none⟩) (some ⟨b,0,none⟩) k14 (logOf [] 0) ⟨some ⟨b2,0,none⟩,1,1⟩ [1] (fun _=>rfl) (linv_of relA (by decide)).1) (rds_and rdb rdb) ?_
  rintro ⟨t,t1,_⟩ _ ⟨_,_,rfl⟩
  rw [show appendL k14 (logOf [] 0) [1]=wA from rfl]
  refine app2 (ca2 ?_)
  refine xnone U8 ?_
  refine xcl (sAppend_spec (some ⟨b1,0,none⟩) (some ⟨b,0,none⟩) wA.1 wA.2.1 ⟨none,0,0⟩ [] (linv_of relA (by decide)).2 (linv_of relB (by decide)).1) (rds_and rdb rdb) ?_
  rintro ⟨t,t1,_⟩ _ ⟨_,_,rfl⟩
  rw [show appendL wA.1 wA.2.1 []=wB from rfl]
  refine app2 (ca2 ?_)
  refine xcl (sSync_spec (some ⟨b1,0,none⟩) (some ⟨b,0,none⟩) wB.1 wB.2.1 (linv_of relB (by decide)).2) rdb ?_
  rintro ⟨t,_⟩ _ ⟨_,rfl⟩
  rw [show syncL wB.1 wB.2.1=wC from rfl]
  refine app2 (ca1 (xnew fun b3=>?_))
  refine xfold1 (Q:=Ar U8 ⟨some ⟨b3,0,none⟩,1,1⟩ [2]) 0 (fun g hg=>⟨[],blk_ar [2] 1 rfl rfl hg⟩) ?_
  refine xcl (sAppend_spec (some ⟨b1,0,none⟩) (some ⟨b,0,none⟩) wC.1 wC.2.1 ⟨some ⟨b3,0,none⟩,1,1⟩ [2] (linv_of relC (by decide)).2 (linv_of relD (by decide)).1) (rds_and rdb rdb) ?_
  rintro ⟨t,t1,_⟩ _ ⟨ht,ht1,rfl⟩
  obtain ⟨k1,k2,k3,k4⟩:=kn1
  have ht:t=2:=Eq.trans ht k1
  have ht1:t1=0:=Eq.trans ht1 k2
  subst ht
  subst ht1
  rw [show appendL wC.1 wC.2.1 [2]=wD from rfl]
  refine app2 (ca2 (xjoin (xiff (by rw [k2];rfl) ?_)))
  refine xuse [LogObj (some ⟨b1,0,none⟩) (some ⟨b,0,none⟩) wD.2.1,DevObj (some ⟨b,0,none⟩) wD.1] ?_
  refine xcl (sNext_spec (some ⟨b1,0,none⟩) (some ⟨b,0,none⟩) wD.2.1) rdb ?_
  rintro ⟨t,_⟩ _ ⟨ht,rfl⟩
  simp only at ht
  rw [k3] at ht;subst ht
  refine app1 (ca1 (xjoin (xiff rfl ?_)))
  refine xcl (sSafe_spec (some ⟨b1,0,none⟩) (some ⟨b,0,none⟩) wD.2.1) rdb ?_
  rintro ⟨t,_⟩ _ ⟨ht,rfl⟩
  simp only at ht
  rw [k4] at ht;subst ht
  refine app1 (ca1 (xiff rfl ?_))
  refine xcl (Wake_spec (some ⟨b,0,none⟩) wD.1 0) rdb ?_
  rintro _ _ rfl
  refine app1 (ca0 ?_)
  refine xcl (sOpen_spec (some ⟨b,0,none⟩) (wakeM wD.1 0)) rdb ?_
  obtain ⟨k5,k6⟩:=kn2
  rintro ⟨q1,r1,_⟩ _ (⟨l,b4,e1,e2,e3,e4,rfl⟩ | ⟨e1,e2,_⟩)
  rotate_left
  · exact absurd k5 e2
  simp only at e3 e4;subst e3 e4
  have e1:wE.2.1=some l:=e1
  rw [e1] at k6
  simp only [Option.map_some,Option.some.injEq,Prod.mk.injEq] at k6
  obtain ⟨k6,k7,k8,k9⟩:=k6
  refine app2 (ca2 (xjoin (xiff rfl (xjoin (xiff rfl ?_)))))
  refine xcl (sNext_spec (some ⟨b4,0,none⟩) (some ⟨b,0,none⟩) l) rdb ?_
  rintro ⟨t,_⟩ _ ⟨ht,rfl⟩
  simp only at ht
  rw [k6] at ht;subst ht
  refine app1 (ca1 (xjoin (xiff rfl ?_)))
  refine xcl (sSafe_spec (some ⟨b4,0,none⟩) (some ⟨b,0,none⟩) l) rdb ?_
  rintro ⟨t,_⟩ _ ⟨ht,rfl⟩
  simp only at ht
  rw [k7] at ht;subst ht
  refine app1 (ca1 (xjoin (xiff rfl ?_)))
  refine xcl (sFirst_spec (some ⟨b4,0,none⟩) (some ⟨b,0,none⟩) l) rdb ?_
  rintro ⟨t,_⟩ _ ⟨ht,rfl⟩
  simp only at ht
  rw [k8] at ht;subst ht
  refine app1 (ca1 (xiff rfl ?_))
  refine xcl (sGet_spec (some ⟨b4,0,none⟩) (some ⟨b,0,none⟩) l 0 ⟨by decide,by decide⟩) rdb ?_
  rintro ⟨t,t1,_⟩ _ ⟨ht1,rfl⟩
  simp only at ht1
  simp only [k9] at ht1 ⊢
  subst ht1
  refine app2 (ca2 (xjoin (xift rfl (xnew fun b5=>?_))))
  refine xfold1 (Q:=Ar U8 ⟨some ⟨b5,0,none⟩,1,1⟩ [1]) 0 (fun g hg=>⟨[],blk_ar [1] 1 rfl rfl hg⟩) ?_
  refine xcl (pre:=[]) (SameBytes_spec t ⟨some ⟨b5,0,none⟩,1,1⟩ [1] [1] (by decide)) (rds_and rdb rdb) ?_
  rintro ⟨c,_⟩ _ ⟨hc,rfl⟩
  obtain rfl:c=true:=by rw [show c=_ from hc];rfl
  exact app0 (ca1 (xkeep (l:=[]) (xret ⟨rfl,rfl⟩)))
end Go.Cx
namespace Go.Cx
open Go Go.Cf Go.Cx
set_option linter.unusedVariables false
set_option maxRecDepth 100000
variable {B:Base}{As F:List HP}{α:Type}
theorem append_room {m:DM}{l:LM}(h:Ldev m l) (p:List UInt8):(appendL m l p).1.room=m.room:=by
  obtain ⟨g1,g2,g3⟩:=h.sync
  unfold appendL
  split
  · rfl
  split
  · rfl
  split
  · rfl
  have hy:DInv (if l.full=true then syncL m l else (m,l,0)).1∧(if l.full=true then syncL m l else (m,l,0)).1.room=m.room:=by
    split
    · exact ⟨g3.inv,g3.room⟩
    · exact ⟨h.inv,rfl⟩
  generalize (if l.full=true then syncL m l else (m,l,0))=y at *
  dsimp only
  generalize (if l.full=true then l.curN+1 else l.curN)=n at *
  split
  · exact hy.2
  split<;>exact (append_touch hy.1 _ _).room.trans hy.2
theorem trim_room {m:DM}{l:LM}(h:Ldev m l) (to keep:Int):(trimL m l to keep).1.room=m.room:=by
  unfold trimL
  split
  · rfl
  split
  · rfl
  have hkl:=drops_le l to keep
  rename_i hk
  obtain ⟨sg,hsg⟩:∃ sg,l.segs[dropsL l to keep]? = some sg:=⟨_,List.getElem?_eq_getElem (by omega)⟩
  rw [hsg]
  simp only [Option.getD_some]
  have t:=lay_touch h.inv sg
  have hl:=h.touch t fun s _=>⟨fK_new s.n,fK_head s.n⟩
  split
  · exact t.room
  obtain ⟨t2,_⟩:=gone_spec2 (l.segs.take (dropsL l to keep)) (layM m sg).1 t.inv (fun hd s hs=>hl.files hd s (List.mem_of_mem_take hs)) (h.keys.sublist (List.take_sublist _ _))
  split<;>exact t2.room.trans t.room
theorem readL_room:∀ (k:Nat) (m:DM) (n:Int) (l:LM),DInv m→DInv (readL k m n l).1∧(readL k m n l).1.room=m.room
  | 0,m,_,l,h=>⟨h,rfl⟩
  | k+1,m,n,l,h=>by
    have t:=mend_touch h n
    unfold readL
    split
    · exact ⟨h,rfl⟩
    split
    · exact ⟨t.inv,t.room⟩
    dsimp only
    split
    · exact ⟨t.inv,t.room⟩
    · obtain ⟨a,b⟩:=readL_room k (mendM m n).1 (n+1) { l with segs:=l.segs++[⟨n,l.next,(scanN (readM m (fN n)).1).2,(scanN (readM m (fN n)).1).1⟩] } t.inv
      exact ⟨a,b.trans t.room⟩
theorem openM_room {m:DM}(h:DInv m):(openM m).1.room=m.room:=by
  have t:=drop_touch h newN
  unfold openM
  split
  · exact t.room
  dsimp only
  split
  · exact t.room
  have hr:=readL_room 70 (dropM m newN).1 (headM (dropM m newN).1).1 ⟨(headM (dropM m newN).1).1,(headM (dropM m newN).1).2.1,[],0⟩ t.inv
  generalize readL 70 (dropM m newN).1 (headM (dropM m newN).1).1 ⟨(headM (dropM m newN).1).1,(headM (dropM m newN).1).2.1,[],0⟩=r at *
  split
  · exact hr.2.trans t.room
  have tw:=sweep_touch (l:=r.2.1) (r.1.fs.map (·.nm)) r.1 hr.1
  split<;>exact tw.room.trans (hr.2.trans t.room)
end Go.Cx
namespace Go.Cx
open Go Go.Cf
set_option linter.unusedVariables false
set_option maxRecDepth 100000
variable {B:Base}{As F:List HP}{α:Type}
theorem xord (Q:List HP) {G:List HP} [q:Split Q As G] {φ:WP}(h:Ent B (Q++G) φ):Ent B As φ:=Ent.perm q.perm h
theorem ca1' {s:Sh}{Bs G:List HP}{K:s.ty→WP}{x:s.ty}{u:Unit}(h:Ent B (Bs++G) (K x)):Ent B (Bs++G) (Cur.app [s] K (x,u)):=h
theorem xclB {P:Program}{f:FuncId}{args:List Value}{rs:Rs}{ss:List Sh}{rd:HP}{post:Tup ss→List HP→Prop}{K:Cur ss}
    (sp:Ct P f args rs ss As rd post) (hrd:Rds B [] rd) (h:∀ t Bs,post t Bs→Ent B Bs (Cur.app ss K t)):Ent B As (XCall P f args rs ss K):=
  xcall sp (by rw [List.append_nil]) hrd (fun t Bs hp=>by rw [List.append_nil];exact h t Bs hp)
abbrev pairS (d x l r:Option Addr):List Value:=[.pointer d,.pointer x,.pointer l,.pointer r]
inductive PS (d x:Option Addr):Option Addr→Option Addr→DM→List HP→Prop
  | no (m:DM) (hI:DInv m) (hr:m.room≤65536):PS d x none none m []
  | lg (m:DM) (lm:LM) (l r:Addr) (h:Ldev m lm) (hr:m.room≤65536):PS d x (some l) (some r) m [LogObj (some l) d lm,RLogObj (some r) x lm]
theorem PS.inv {d x l r:Option Addr}{m:DM}{G:List HP}(h:PS d x l r m G):DInv m∧m.room≤65536:=by
  cases h with
  | no _ hI hr=>exact ⟨hI,hr⟩
  | lg _ lm l r h hr=>exact ⟨h.inv,hr⟩
theorem PS.arm {d x l r:Option Addr}{m:DM}{G:List HP}(h:PS d x l r m G) (n:Int) (hn:i64 n):PS d x l r (armM m n) G:=by
  have hA:=arm_inv h.inv.1 hn
  have t:Touch m (armM m n) (fun _=>True):=⟨hA,rfl,fun hd=>⟨hd,fun _ _=>rfl⟩⟩
  cases h with
  | no _ hI hr=>exact .no _ hA hr
  | lg _ lm l r h hr=>exact .lg _ lm l r (h.touch t fun _ _=>trivial) hr
def PW (pb:Nat) (d x:Option Addr) (Bs:List HP):Prop:=∃ l r m G,PS d x l r m G∧Bs=Blk pb (pairS d x l r)::DevObj d m::RefDev x m::G
theorem open14_spec (pb:Nat) (d x l r:Option Addr) (m:DM) (hI:DInv m) (hr:m.room≤65536):Ct Pr F_law14_pair_open [.pointer (some ⟨pb,0,none⟩)] .one [.bool]
    [Blk pb (pairS d x l r),DevObj d m,RefDev x m] GTab (fun t Bs=>t.1=true∧PW pb d x Bs):=by
  refine spec1 c_law14_pair_open fun B hg=>?_
  haveI:FroP B GTab:=⟨hg,fun _ _ h s=>GTab.mono _ _ h s⟩
  unfold law14_pair_open
  have hroom:(openM m).1.room=m.room:=openM_room hI
  refine xnil (xget (h:=?_))
  refine xcl (sOpen_spec d m) rdb ?_
  rintro ⟨q1,e,_⟩ Bs hp
  rcases hp with ⟨lm,lb,h1,h2,h3,h4,rfl⟩ | ⟨h1,h2,h3,h4,rfl⟩
  · simp only at h3 h4;subst h3 h4
    refine app2 (ca2 (xnil (xget (h:=?_))))
    refine xcl (rOpen14_spec x m) rdb ?_
    rintro ⟨q3,e,_⟩ Bs hp
    rcases hp with ⟨lm2,rb,h5,h6,h7,h8,rfl⟩ | ⟨h5,h6,h7,h8,rfl⟩
    · rw [h1] at h5
      obtain rfl:=Option.some.inj h5
      simp only at h7 h8;subst h7 h8
      obtain ⟨g1,g2,g3,g4⟩:=open_ldev hI h1
      refine app2 (ca2 (xjoin (xiff (by simp) (xiff (by simp [noneB]) (xnil (xset (h:=xnil (xset (h:=?_)))))))))
      exact xuse [Blk pb (pairS d x (some ⟨lb,0,none⟩) (some ⟨rb,0,none⟩)),DevObj d (openM m).1,RefDev x (openM m).1,LogObj (some ⟨lb,0,none⟩) d lm,RLogObj (some ⟨rb,0,none⟩) x lm]
        (xret ⟨rfl,_,_,_,_,.lg (openM m).1 lm ⟨lb,0,none⟩ ⟨rb,0,none⟩ g1 (by rw [g2];exact hr),rfl⟩)
    · rw [h1] at h5;cases h5
  · simp only at h3 h4;subst h3 h4
    refine app1 (ca2 (xnil (xget (h:=?_))))
    refine xcl (rOpen14_spec x m) rdb ?_
    rintro ⟨q3,e,_⟩ Bs hp
    rcases hp with ⟨lm2,rb,h5,h6,h7,h8,rfl⟩ | ⟨h5,h6,h7,h8,rfl⟩
    · rw [h1] at h5;cases h5
    · simp only at h7 h8;subst h7 h8
      refine app1 (ca2 (xjoin (xiff (by simp) (xiff (by simp [noneB,h2]) (xnil (xset (h:=xnil (xset (h:=?_)))))))))
      refine xfact 1 (P1:=DevObj d (openM m).1) (fun g hg=>hg.1) fun hI2=>?_
      exact xuse [Blk pb (pairS d x none none),DevObj d (openM m).1,RefDev x (openM m).1] (xret ⟨rfl,_,_,_,_,.no (openM m).1 hI2 (by rw [hroom];exact hr),rfl⟩)
structure OP14 where
  kind:Int
  n:Int
  k:Int
  name:ByteArray
  data:Sl
abbrev OP14.cells (o:OP14):List Value:=[.int .i64 o.kind,.int .i64 o.n,.int .i64 o.k,.string o.name,o.data.v]
abbrev OP14.v (o:OP14):Value:=.agg #[.int .i64 o.kind,.int .i64 o.n,.int .i64 o.k,.string o.name,o.data.v]
theorem remove_inv14 {m:DM}(hI:DInv m) (nm:ByteArray):DInv (removeM m nm).1∧(removeM m nm).1.room=m.room:=⟨(remove_touch hI nm).inv,(remove_touch hI nm).room⟩
theorem trunc_inv14 {m:DM}(hI:DInv m) (nm:ByteArray) (n:Int):DInv (truncM m nm n).1∧(truncM m nm n).1.room=m.room:=⟨(trunc_touch hI nm n).inv,(trunc_touch hI nm n).room⟩
theorem append_inv14 {m:DM}(hI:DInv m) (nm:ByteArray) (b:List UInt8):DInv (appendM m nm b).1∧(appendM m nm b).1.room=m.room:=⟨(append_touch hI nm b).inv,(append_touch hI nm b).room⟩
theorem device14_spec (pb:Nat) (d x l r:Option Addr) (m:DM) (G:List HP) (hQ:PS d x l r m G) (o:OP14) (bs:List UInt8):Ct Pr F_law14_pair_device [.pointer (some ⟨pb,0,none⟩),o.v] .one [.bool]
    (Blk pb (pairS d x l r)::DevObj d m::RefDev x m::G) ((RAr U8 o.data bs).and GTab) (fun t Bs=>t.1=true∧PW pb d x Bs):=by
  refine spec1 c_law14_pair_device fun B hg=>?_
  haveI:FroP B GTab:=⟨hg.2,fun _ _ h s=>GTab.mono _ _ h s⟩
  haveI:Fro B o.data U8 bs:=⟨hg.1⟩
  obtain ⟨hI,hr⟩:=hQ.inv
  unfold law14_pair_device
  refine xnew fun b=>xget (h:=?_)
  refine xjoin1 (fun(c:Bool) As'=>c=true∧∃ m',DInv m'∧m'.room≤65536∧As'=[Blk pb (pairS d x l r),DevObj d m',RefDev x m']) (fun K hK=>?_) ?_
  · have fin:∀ {As R:List HP}(c:Bool) (m':DM),c=true→DInv m'→m'.room≤65536→∀ [Split [Blk pb (pairS d x l r),DevObj d m',RefDev x m'] As R],Ent B As (K c):=fun c m' hc h1 h2=>by
      exact xuse _ (hK _ _ ⟨hc,m',h1,h2,rfl⟩)
    refine xif (fun h=>?_) (fun h=>?_)
    · refine xdraw (xnil (xget (h:=xget (h:=?_))))
      refine xcl (Wake_spec d m o.n) rdb ?_
      rintro _ _ rfl
      refine app1 (ca0 (xdraw (xnil (xget (h:=xget (h:=?_))))))
      refine xcl (rWake_spec x m o.n) rdb ?_
      rintro _ _ rfl
      exact app1 (ca0 (fin true (wakeM m o.n) rfl (wake_inv hI o.n) hr))
    refine xjoin (xif (fun h=>?_) (fun h=>?_))
    · refine xdraw (xnil (xget (h:=xget (h:=xget (h:=xnil (xget (h:=xget (h:=xget (h:=?_)))))))))
      refine xcl (Append_spec d m o.name o.data bs) rdb ?_
      rintro ⟨t,_⟩ _ ⟨h1,rfl⟩
      simp only at h1;subst h1
      refine app1 (ca1 (xchk (h:=xchk (h:=xchk (h:=?_)))))
      refine xcl (rAppend_spec x m o.name o.data bs) rdb ?_
      rintro ⟨t,_⟩ _ ⟨h1,rfl⟩
      simp only at h1;subst h1
      exact app1 (ca1 (fin _ _ (by simp) (append_inv14 hI o.name bs).1 (by rw [(append_inv14 hI o.name bs).2];exact hr)))
    refine xjoin (xif (fun h=>?_) (fun h=>?_))
    · refine xdraw (xnil (xget (h:=xget (h:=xnil (xget (h:=xget (h:=?_)))))))
      refine xcl (Remove_spec d m o.name) rdb ?_
      rintro ⟨t,_⟩ _ ⟨h1,rfl⟩
      simp only at h1;subst h1
      refine app1 (ca1 (xchk (h:=xchk (h:=?_))))
      refine xcl (rRemove_spec x m o.name) rdb ?_
      rintro ⟨t,_⟩ _ ⟨h1,rfl⟩
      simp only at h1;subst h1
      exact app1 (ca1 (fin _ _ (by simp) (remove_inv14 hI o.name).1 (by rw [(remove_inv14 hI o.name).2];exact hr)))
    refine xjoin (xif (fun h=>?_) (fun h=>?_))
    · refine xdraw (xnil (xget (h:=xget (h:=xget (h:=xnil (xget (h:=xget (h:=xget (h:=?_)))))))))
      refine xcl (Truncate_spec d m o.name o.n) rdb ?_
      rintro ⟨t,_⟩ _ ⟨h1,rfl⟩
      simp only at h1;subst h1
      refine app1 (ca1 (xchk (h:=xchk (h:=xchk (h:=?_)))))
      refine xcl (rTruncate_spec x m o.name o.n) rdb ?_
      rintro ⟨t,_⟩ _ ⟨h1,rfl⟩
      simp only at h1;subst h1
      exact app1 (ca1 (fin _ _ (by simp) (trunc_inv14 hI o.name o.n).1 (by rw [(trunc_inv14 hI o.name o.n).2];exact hr)))
    · exact fin true m rfl hI hr
  rintro c _ ⟨rfl,m',hI',hr',rfl⟩
  refine xjoin (xift rfl ?_)
  refine xclB (open14_spec pb d x l r m' hI' hr') rdb ?_
  rintro ⟨t,_⟩ Bs ⟨h1,h2⟩
  simp only at h1;subst h1
  exact ca1 (xret ⟨rfl,h2⟩)
theorem call14_spec (pb:Nat) (d x l r:Option Addr) (m:DM) (G:List HP) (hQ:PS d x l r m G) (o:OP14) (bs:List UInt8) (hb:bs.length≤1000000) (hn:i64 o.n) (hk:i64 o.k):Ct Pr F_law14_pair_call [.pointer (some ⟨pb,0,none⟩),o.v] .one [.bool]
    (Blk pb (pairS d x l r)::DevObj d m::RefDev x m::G) ((RAr U8 o.data bs).and GTab) (fun t Bs=>t.1=true∧PW pb d x Bs):=by
  refine spec1 c_law14_pair_call fun B hg=>?_
  haveI:FroP B GTab:=⟨hg.2,fun _ _ h s=>GTab.mono _ _ h s⟩
  haveI:Fro B o.data U8 bs:=⟨hg.1⟩
  unfold law14_pair_call
  refine xnew fun b=>?_
  cases hQ with
  | no _ hI hr=>
    refine xnil (xget (h:=xift rfl ?_))
    exact xuse [Blk pb (pairS d x none none),DevObj d m,RefDev x m] (xret ⟨rfl,_,_,_,_,.no m hI hr,rfl⟩)
  | lg _ lm la ra h hr=>
    refine xnil (xget (h:=xiff rfl (xget (h:=?_))))
    have fin:∀ {As R:List HP}(c:Bool) (m':DM) (lm':LM),c=true→Ldev m' lm'→m'.room≤65536→∀ [Split [Blk pb (pairS d x (some la) (some ra)),DevObj d m',RefDev x m',LogObj (some la) d lm',RLogObj (some ra) x lm'] As R],
        Ent B As (Ret B (ss:=[.bool]) (fun t Bs=>t.1=true∧PW pb d x Bs) (c,())):=fun c m' lm' hc h1 h2=>by
      subst hc
      exact xuse _ (xret ⟨rfl,_,_,_,_,.lg m' lm' la ra h1 h2,rfl⟩)
    refine xjoin (xif (fun hk0=>?_) (fun hk0=>?_))
    · refine xget (h:=?_)
      refine xcl (LentBytes_spec o.data bs (by omega)) rdb ?_
      rintro ⟨s1,_⟩ _ rfl
      refine app1 (ca1 (xnil (xget (h:=?_))))
      refine xcl (sAppend_spec (some la) d m lm s1 bs h.safe (h.append bs).log) (rds_and rdb rdb) ?_
      rintro ⟨n1,e1,_⟩ _ ⟨hn1,he1,rfl⟩
      simp only at hn1 he1;subst hn1 he1
      refine app2 (ca2 (xdraw (xnil (xget (h:=xget (h:=?_))))))
      refine xcl (rAppend14c_spec (some ra) x m lm o.data bs h.safe h.cur h.sync.2.1 (h.append bs).log) rdb ?_
      rintro ⟨n1,e1,_⟩ _ ⟨hn1,he1,rfl⟩
      simp only at hn1 he1;subst hn1 he1
      refine app2 (ca2 (xjoin (xiff (by simp) (xget (h:=?_)))))
      refine xcl (KeptBytes_spec s1 o.data bs (by omega)) (rds_and rdb rdb) ?_
      rintro ⟨c,_⟩ _ ⟨hc,rfl⟩
      obtain rfl:c=true:=hc
      refine app0 (ca1 (xiff rfl ?_))
      refine xord [Ars U8 s1 bs (List.replicate 5 165)] (app1 ?_)
      refine xfold1 (Q:=Ar U8 s1 bs) 0 (fun g hg=>⟨List.replicate 5 165,hg⟩) ?_
      refine xcl (SpoilBytes_spec s1 bs) rdb ?_
      rintro _ _ rfl
      exact app0 (ca0 (fin true _ _ rfl (h.append bs) (by rw [append_room h];exact hr)))
    refine xif (fun hk1=>?_) (fun hk1=>?_)
    · refine xdraw (xnil (xget (h:=xnil (xget (h:=?_)))))
      refine xcl (sSync_spec (some la) d m lm h.safe) rdb ?_
      rintro ⟨e1,_⟩ _ ⟨he1,rfl⟩
      simp only at he1;subst he1
      refine app2 (ca1 (xchk (h:=?_)))
      refine xcl (rSync14_spec (some ra) x m lm h.safe) rdb ?_
      rintro ⟨e1,_⟩ _ ⟨he1,rfl⟩
      simp only at he1;subst he1
      have h':=h.sync
      have e2:(if (syncL m lm).2.2=0 then (0:Int) else 10)=(syncL m lm).2.2:=by
        split
        · rename_i e;exact e.symm
        · rename_i e;exact (h'.2.1 e).symm
      rw [e2]
      exact app2 (ca1 (fin _ _ _ (by simp) h'.1 (by rw [h'.2.2.room];exact hr)))
    refine xif (fun hk2=>?_) (fun hk2=>?_)
    · refine xdraw (xnil (xget (h:=xget (h:=xget (h:=xnil (xget (h:=xget (h:=xget (h:=?_)))))))))
      refine xcl (segTrimK_spec (some la) d m lm o.n o.k hk) rdb ?_
      rintro ⟨e1,_⟩ _ ⟨he1,rfl⟩
      simp only at he1;subst he1
      refine app2 (ca1 (xchk (h:=xchk (h:=xchk (h:=?_)))))
      refine xcl (rTrim14c_spec (some ra) x m lm o.n o.k hk (fun sg _=>h.gone o.n o.k sg)) rdb ?_
      rintro ⟨e1,_⟩ _ ⟨he1,rfl⟩
      simp only at he1;subst he1
      exact app2 (ca1 (fin _ _ _ (by simp) (h.trim o.n o.k) (by rw [trim_room h];exact hr)))
    refine xif (fun hk3=>?_) (fun hk3=>?_)
    · have hlen:=getL_len h.log o.n
      refine xdraw (xnil (xget (h:=xget (h:=?_))))
      refine xcl (sGet_spec (some la) d lm o.n hn) rdb ?_
      rintro ⟨s4,e,_⟩ _ ⟨he,rfl⟩
      simp only at he;subst he
      refine app2 (ca2 (xdraw (xnil (xget (h:=xget (h:=?_))))))
      refine xcl (rGet14_spec (some ra) x lm o.n) rdb ?_
      rintro ⟨s5,e,_⟩ _ ⟨he,rfl⟩
      simp only at he;subst he
      refine app2 (ca2 (xdraw (xnil (xget (h:=xget (h:=?_))))))
      refine xcl (sGet_spec (some la) d lm o.n hn) rdb ?_
      rintro ⟨s6,e,_⟩ _ ⟨he,rfl⟩
      simp only at he;subst he
      refine app2 (ca2 (xjoin (xiff (by simp) ?_)))
      refine xcl (SameBytes_spec s4 s5 (getL lm o.n).1 (getL lm o.n).1 (by omega)) (rds_and rdb rdb) ?_
      rintro ⟨c,_⟩ _ ⟨hc,rfl⟩
      simp only at hc;subst hc
      refine app0 (ca1 (xjoin (xiff (by simp) ?_)))
      refine xcl (SameBytes_spec s6 s5 (getL lm o.n).1 (getL lm o.n).1 (by omega)) (rds_and rdb rdb) ?_
      rintro ⟨c,_⟩ _ ⟨hc,rfl⟩
      simp only at hc;subst hc
      refine app0 (ca1 (xiff (by simp) ?_))
      refine xcl (SpoilBytes_spec s4 (getL lm o.n).1) rdb ?_
      rintro _ _ rfl
      refine app0 (ca0 ?_)
      refine xcl (SameBytes_spec s6 s5 (getL lm o.n).1 (getL lm o.n).1 (by omega)) (rds_and rdb rdb) ?_
      rintro ⟨c,_⟩ _ ⟨hc,rfl⟩
      simp only at hc;subst hc
      exact app0 (ca1 (fin _ _ _ (by simp) h hr))
    · exact fin true m lm rfl h hr
end Go.Cx
namespace Go.Cx
open Go Go.Cf
set_option linter.unusedVariables false
set_option maxRecDepth 100000
variable {B:Base}{As F:List HP}{α:Type}
theorem same14_spec (q p y x:Option Addr) (l:LM):Ct Pr F_law14_Same [.pointer q,.pointer y] .one [.bool] [LogObj q p l,RLogObj y x l] emp (fun t Bs=>t.1=true∧Bs=[LogObj q p l,RLogObj y x l]):=by
  refine spec1 c_law14_Same fun B _=>?_
  unfold law14_Same
  refine xdraw ?_
  refine xrlog 1 fun hi b n s cs hq hn hf hs=>?_
  subst hq
  refine xjoin (xnil (xget (h:=?_)))
  refine xcl (sFirst_spec q p l) rdb ?_
  rintro ⟨t,_⟩ _ ⟨h1,rfl⟩
  simp only at h1;subst h1
  refine app1 (ca1 (xchk (h:=xift (by simp) ?_)))
  refine xcl (sNext_spec q p l) rdb ?_
  rintro ⟨t,_⟩ _ ⟨h1,rfl⟩
  simp only at h1;subst h1
  refine app1 (ca1 ?_)
  refine xcl (rNext_raw b x n l s cs hs hf hi) rdb ?_
  rintro ⟨t,_⟩ _ ⟨h1,rfl⟩
  simp only at h1;subst h1
  refine app2 (ca1 (xift (by simp) (xnil (xget (h:=?_)))))
  refine xcl (sSafe_spec q p l) rdb ?_
  rintro ⟨t,_⟩ _ ⟨h1,rfl⟩
  simp only at h1;subst h1
  refine app1 (ca1 (xchk (h:=xift (by simp) (xnil (xget (s:=.slice) (x:=s) (hv:=rfl) (h:=?_))))))
  refine xcl (sSegments_spec q p l) rdb ?_
  rintro ⟨t,_⟩ _ ⟨h1,rfl⟩
  simp only at h1;subst h1
  refine app1 (ca1 (xchk (h:=?_)))
  have e:((l.segs.length:Int) == (s.n:Int))=true:=by
    have:=hf.len
    simp;omega
  rw [e]
  refine xrlog_back (p:=x) (l:=l) b n s cs hi hn ?_
  exact xuse [LogObj q p l,RLogObj (some ⟨b,0,none⟩) x l] (xret ⟨rfl,rfl⟩)
theorem all14_spec (pb:Nat) (d x l r:Option Addr) (m:DM) (G:List HP) (hQ:PS d x l r m G):Ct Pr F_law14_pair_all [.pointer (some ⟨pb,0,none⟩)] .one [.bool]
    (Blk pb (pairS d x l r)::G) emp (fun t Bs=>t.1=true∧Bs=[]):=by
  refine spec1 c_law14_pair_all fun B _=>?_
  unfold law14_pair_all
  have fin:∀ {As:List HP},Ent B As (Ret B (ss:=[.bool]) (fun t Bs=>t.1=true∧Bs=[]) (true,())):=xkeep (l:=[]) (xret ⟨rfl,rfl⟩)
  cases hQ with
  | no _ hI hr=>exact xnil (xget (h:=xift rfl fin))
  | lg _ lm la ra h hr=>
    refine xnil (xget (h:=xiff rfl (xnil (xget (h:=?_)))))
    refine xord [RLogObj (some ra) x lm] (app1 (xrlo ?_))
    have hI:=h.log
    have hlo:=hI.lo
    have hnx:=hI.next
    rw [wrap_id (lm.lo - 1) (by omega) (by omega)]
    refine xuse [Blk pb (pairS d x (some la) (some ra)),LogObj (some la) d lm,RLogObj (some ra) x lm] ?_
    refine xloop1 (fun n (z:Int) As'=>n=(lm.next+1 - z).toNat∧lm.lo - 1≤z∧As'=[Blk pb (pairS d x (some la) (some ra)),LogObj (some la) d lm,RLogObj (some ra) x lm]) (lm.next+1 - (lm.lo - 1)).toNat ⟨rfl,by omega,rfl⟩ ?_
    rintro n z As' K ⟨rfl,hz,rfl⟩ hK
    have hz:lm.lo - 1≤(z:Int):=hz
    refine xnil (xget (h:=?_))
    refine xcl (rNext14_spec (some ra) x lm) rdb ?_
    rintro ⟨t,_⟩ _ ⟨h1,rfl⟩
    simp only at h1;subst h1
    refine app1 (ca1 (xif_dec (fun hle=>?_) (fun hle=>fin)))
    have hle:(z:Int)≤lm.next:=hle
    have hlen:=getL_len hI z
    refine xnil (xget (h:=?_))
    refine xcl (sGet_spec (some la) d lm z ⟨by omega,by omega⟩) rdb ?_
    rintro ⟨s4,e,_⟩ _ ⟨he,rfl⟩
    simp only at he;subst he
    refine app2 (ca2 (xnil (xget (h:=?_))))
    refine xcl (rGet14_spec (some ra) x lm z) rdb ?_
    rintro ⟨s5,e,_⟩ _ ⟨he,rfl⟩
    simp only at he;subst he
    refine app2 (ca2 (xjoin (xiff (by simp) ?_)))
    refine xcl (SameBytes_spec s4 s5 (getL lm z).1 (getL lm z).1 (by omega)) (rds_and rdb rdb) ?_
    rintro ⟨c,_⟩ _ ⟨hc,rfl⟩
    simp only at hc;subst hc
    refine app0 (ca1 (xiff (by simp) ?_))
    rw [wrap_id (z+1) (by omega) (by omega)]
    exact xuse [Blk pb (pairS d x (some la) (some ra)),LogObj (some la) d lm,RLogObj (some ra) x lm] (hK (lm.next+1 - (z+1)).toNat (z+1) _ (by omega) ⟨rfl,by omega,rfl⟩)
def OPS:Enc OP14:=⟨fun o=>o.cells,5,fun _=>rfl,fun x v h=>by
  simp at h
  rcases h with rfl | rfl | rfl | rfl | rfl<;>rfl,by decide,⟨0,0,0,ByteArray.empty,⟨none,0,0⟩⟩⟩
def OpsS (s:Sl) (os:List OP14):HP:=fun h=>RAr OPS s os h∧∀ o∈os,∃ bs:List UInt8,RAr U8 o.data bs h
theorem long14_spec (p:Sl) (os:List OP14) (hl:os.length≤1000):Ct Pr F_law14_long [p.v] .one [.bool] [] (RAr OPS p os) (fun t Bs=>Bs=[]):=by
  refine spec1 c_law14_long fun B hr=>?_
  haveI:Fro B p OPS os:=⟨hr⟩
  have h1:=hr.1
  unfold law14_long
  refine xif_dec (fun h=>xret rfl) (fun h=>?_)
  refine xloop1 (fun m (x:Int) As'=>∃ k:Nat,x=(k:Int)∧m=os.length - k∧k≤os.length∧As'=[]) os.length ⟨0,rfl,rfl,by omega,rfl⟩ ?_
  rintro m x As' K ⟨k,rfl,rfl,hk,rfl⟩ hK
  refine xif_dec (fun hp=>?_) (fun hp=>xret rfl)
  obtain ⟨o,ho⟩:∃ o,os[k]? = some o:=⟨_,List.getElem?_eq_getElem (by omega)⟩
  refine xidxn (E:=OPS) (xs:=os) (s:=p) (h1:=by omega) (h:=fun _ _=>?_)
  refine xgetEj (E:=OPS) (xs:=os) ho (h:=?_)
  refine xjoin1 (fun(c:Bool) As'=>As'=[]) (fun K1 hK1=>?_) ?_
  · refine xif_dec (fun h2=>hK1 _ _ rfl) (fun h2=>?_)
    refine xidxn (E:=OPS) (xs:=os) (s:=p) (h1:=by omega) (h:=fun _ _=>?_)
    exact xgetEj (E:=OPS) (xs:=os) ho (h:=hK1 _ _ rfl)
  rintro c _ rfl
  refine xif (fun h2=>xret rfl) (fun h2=>?_)
  rw [wrap_succ k (by omega)]
  exact hK _ _ _ (by omega) ⟨k+1,rfl,rfl,by omega,rfl⟩
theorem xskip14 {Bs Cs:List HP}{φ:WP}(h:Ent B Cs φ):Ent B (Bs++Cs) φ:=by
  intro w hw
  exact (Ent.perm List.perm_append_comm (xkeep h)) w hw
theorem runs14_spec (room:Int) (hroom:room≤65536) (p:Sl) (os:List OP14) (hl:os.length≤1000) (hok:∀ o∈os,i64 o.n∧i64 o.k∧o.data.n≤4096) :
    Ct Pr F_law14_SegsRuns [.int .i64 room,p.v] .one [.bool] [] ((OpsS p os).and GTab) (fun t Bs=>t.1=true∧Bs=[]):=by
  refine spec1 c_law14_SegsRuns fun B hg=>?_
  obtain ⟨⟨hr,hrow⟩,hg1⟩:=hg
  haveI:FroP B GTab:=⟨hg1,fun _ _ h s=>GTab.mono _ _ h s⟩
  haveI:Fro B p OPS os:=⟨hr⟩
  have hp1:=hr.1
  unfold law14_SegsRuns
  have works:∀ {As:List HP}{K:Bool→WP},Ent B As (K true)→Ent B As (XCall Pr F_law14_works [] .one [.bool] K):=by
    intro As K hK
    refine xcall0 works14_spec rdb ?_
    rintro ⟨c,_⟩ _ ⟨hc,rfl⟩
    simp only at hc;subst hc
    exact app0 (ca1 hK)
  have fin:∀ {As:List HP},Ent B As (Ret B (ss:=[.bool]) (fun t Bs=>t.1=true∧Bs=[]) (true,())):=xkeep (l:=[]) (xret ⟨rfl,rfl⟩)
  refine xcall0 (New_spec room) rdb ?_
  rintro ⟨q,e,_⟩ Bs1 hn1
  have hn1:(((room<0∨room>16777216)∧q=none∧e=3∧Bs1=[])∨(0≤room∧room≤16777216∧e=0∧(∃ b,q=some ⟨b,0,none⟩)∧Bs1=[DevObj q ⟨false,false,0,room,[]⟩])):=hn1
  rcases hn1 with ⟨hb,rfl,rfl,rfl⟩ | ⟨h0,h1,rfl,⟨qb,rfl⟩,rfl⟩
  · refine app0 (ca2 ?_)
    refine xcall0 (rNew_spec room) rdb ?_
    rintro ⟨q,e,_⟩ Bs2 hn2
    refine xskip14 (ca2 ?_)
    refine xcall0 (long14_spec p os hl) rdb ?_
    rintro ⟨c,_⟩ _ rfl
    exact app0 (ca1 (xift (by simp) (works fin)))
  refine app1 (ca2 ?_)
  refine xcall0 (rNew_spec room) rdb ?_
  rintro ⟨q,e,_⟩ Bs2 hn2
  have hn2:(((room<0∨room>16777216)∧q=none∧e=3∧Bs2=[])∨(0≤room∧room≤16777216∧e=0∧(∃ b,q=some ⟨b,0,none⟩)∧Bs2=[RefDev q ⟨false,false,0,room,[]⟩])):=hn2
  rcases hn2 with ⟨hb,rfl,rfl,rfl⟩ | ⟨_,_,rfl,⟨xb,rfl⟩,rfl⟩
  · omega
  refine app1 (ca2 ?_)
  refine xcall0 (long14_spec p os hl) rdb ?_
  rintro ⟨c,_⟩ _ rfl
  refine app0 (ca1 (xif (fun hc=>works fin) (fun hc=>?_)))
  refine xnew fun b=>?_
  refine xfact 2 (P1:=DevObj (some ⟨qb,0,none⟩) ⟨false,false,0,room,[]⟩) (fun g hg=>hg.1) fun hI=>?_
  refine xcl (open14_spec b (some ⟨qb,0,none⟩) (some ⟨xb,0,none⟩) none none ⟨false,false,0,room,[]⟩ hI hroom) rdb ?_
  rintro ⟨t,_⟩ Bs ⟨ht,hB⟩
  simp only at ht;subst ht
  refine ca1' (xiff rfl ?_)
  rw [show (Bs++([]:List HP))=Bs from List.append_nil Bs]
  refine xloop1 (fun n (z:Int) As'=>∃ k:Nat,z=(k:Int)∧n=os.length - k∧k≤os.length∧PW b (some ⟨qb,0,none⟩) (some ⟨xb,0,none⟩) As') os.length ⟨0,rfl,rfl,by omega,hB⟩ ?_
  clear hB
  rintro n _ As' K ⟨k,rfl,rfl,hk,l,r,m,G,hQ,rfl⟩ hK
  refine xif_dec (fun hlt=>?_) (fun hlt=>?_)
  · obtain ⟨o,ho⟩:∃ o,os[k]? = some o:=⟨_,List.getElem?_eq_getElem (by omega)⟩
    obtain ⟨bs,hbs⟩:=hrow o (List.mem_of_getElem? ho)
    haveI:Fro B o.data U8 bs:=⟨hbs⟩
    have hbl:=hbs.1
    obtain ⟨ok1,ok2,ok3⟩:=hok o (List.mem_of_getElem? ho)
    refine xidxn (E:=OPS) (xs:=os) (s:=p) (h1:=by omega) (h:=fun _ _=>?_)
    refine xgetE (E:=OPS) (xs:=os) ho (h:=?_)
    iterate 4 (refine xgetEj (E:=OPS) (xs:=os) ho (h:=?_))
    refine xnew fun b1=>xset (h:=xset (h:=xset (h:=xset (h:=xset (h:=xget (h:=?_))))))
    refine xjoin1 (fun(c:Bool) As'=>c=true∧PW b (some ⟨qb,0,none⟩) (some ⟨xb,0,none⟩) As') (fun K1 hK1=>?_) ?_
    · refine xif (fun h5=>?_) (fun h5=>?_)
      · refine xdraw (xnil (xget (h:=?_)))
        refine xcl (Arm_spec (some ⟨qb,0,none⟩) m o.n ok1) rdb ?_
        rintro _ _ rfl
        refine app1 (ca0 (xget (h:=?_)))
        refine xcl (rArm_spec (some ⟨xb,0,none⟩) m o.n ok1) rdb ?_
        rintro _ _ rfl
        refine app1 (ca0 ?_)
        refine xord [Blk b (pairS (some ⟨qb,0,none⟩) (some ⟨xb,0,none⟩) l r),DevObj (some ⟨qb,0,none⟩) (armM m o.n),RefDev (some ⟨xb,0,none⟩) (armM m o.n)] (app3 (xdrop 3 ?_))
        exact hK1 _ _ ⟨rfl,l,r,_,G,hQ.arm o.n ok1,rfl⟩
      refine xget (h:=xjoin1 (fun(c:Bool) As'=>As'=Blk b1 o.cells::Blk b (pairS (some ⟨qb,0,none⟩) (some ⟨xb,0,none⟩) l r)::DevObj (some ⟨qb,0,none⟩) m::RefDev (some ⟨xb,0,none⟩) m::G) (fun K2 hK2=>?_) ?_)
      · exact xif (fun _=>xget (h:=hK2 _ _ rfl)) (fun _=>hK2 _ _ rfl)
      rintro c _ rfl
      refine xjoin (xif (fun hc=>?_) (fun hc=>?_))
      · iterate 5 (refine xget (h:=?_))
        refine xord [Blk b (pairS (some ⟨qb,0,none⟩) (some ⟨xb,0,none⟩) l r),DevObj (some ⟨qb,0,none⟩) m,RefDev (some ⟨xb,0,none⟩) m] (app3 (xdrop 3 ?_))
        refine xclB (device14_spec b (some ⟨qb,0,none⟩) (some ⟨xb,0,none⟩) l r m G hQ o bs) (rds_and rdb rdb) ?_
        rintro ⟨t,_⟩ Bs ⟨ht,hB⟩
        simp only at ht;subst ht
        exact ca1 (hK1 _ _ ⟨rfl,hB⟩)
      · iterate 5 (refine xget (h:=?_))
        refine xord [Blk b (pairS (some ⟨qb,0,none⟩) (some ⟨xb,0,none⟩) l r),DevObj (some ⟨qb,0,none⟩) m,RefDev (some ⟨xb,0,none⟩) m] (app3 (xdrop 3 ?_))
        refine xclB (call14_spec b (some ⟨qb,0,none⟩) (some ⟨xb,0,none⟩) l r m G hQ o bs (by omega) ok1 ok2) (rds_and rdb rdb) ?_
        rintro ⟨t,_⟩ Bs ⟨ht,hB⟩
        simp only at ht;subst ht
        exact ca1 (hK1 _ _ ⟨rfl,hB⟩)
    rintro _ _ ⟨rfl,l,r,m,G,hQ,rfl⟩
    refine xdraw (xjoin (xiff rfl ?_))
    have look:∀ {As:List HP}(l r:Option Addr) (G:List HP),PS (some ⟨qb,0,none⟩) (some ⟨xb,0,none⟩) l r m G→(∀ φ,Ent B ([Blk b (pairS (some ⟨qb,0,none⟩) (some ⟨xb,0,none⟩) l r),DevObj (some ⟨qb,0,none⟩) m,RefDev (some ⟨xb,0,none⟩) m]++G) φ→Ent B As φ) →
        Ent B As (XCall Pr F_law12_Looks [.pointer (some ⟨qb,0,none⟩),.pointer (some ⟨xb,0,none⟩)] .one [.bool] fun c5=>XIf (!c5) (Ret B (ss:=[.bool]) (fun t Bs=>t.1=true∧Bs=[]) (false,())) (K (IntKind.i64.wrap ((k:Int)+1)))):=by
      intro As l r G hQ hp
      refine hp _ (app3 ?_)
      refine xcl (Looks_spec (some ⟨qb,0,none⟩) (some ⟨xb,0,none⟩) m) rdb ?_
      rintro ⟨t,_⟩ _ ⟨h1,rfl⟩
      simp only at h1;subst h1
      refine app2 (ca1 ?_)
      refine xord [Blk b (pairS (some ⟨qb,0,none⟩) (some ⟨xb,0,none⟩) l r),DevObj (some ⟨qb,0,none⟩) m,RefDev (some ⟨xb,0,none⟩) m] (app3 ?_)
      rw [wrap_succ k (by omega)]
      exact xiff rfl (hK (os.length - (k+1)) _ _ (by omega) ⟨k+1,rfl,rfl,by omega,l,r,m,G,hQ,rfl⟩)
    cases hQ with
    | no _ hI hr=>exact xnil (xget (h:=xiff rfl (xiff rfl (look none none [] (.no m hI hr) fun φ h=>h))))
    | lg _ lm la ra h hr=>
      refine xnil (xget (h:=xift rfl (xnil (xget (h:=xnil (xget (h:=?_)))))))
      refine xcl (same14_spec (some la) (some ⟨qb,0,none⟩) (some ra) (some ⟨xb,0,none⟩) lm) rdb ?_
      rintro ⟨t,_⟩ _ ⟨h1,rfl⟩
      simp only at h1;subst h1
      refine app2 (ca1 (xiff rfl ?_))
      refine look (some la) (some ra) [LogObj (some la) (some ⟨qb,0,none⟩) lm,RLogObj (some ra) (some ⟨xb,0,none⟩) lm] (.lg m lm la ra h hr) fun φ h=>?_
      exact xuse [Blk b (pairS (some ⟨qb,0,none⟩) (some ⟨xb,0,none⟩) (some la) (some ra)),DevObj (some ⟨qb,0,none⟩) m,RefDev (some ⟨xb,0,none⟩) m,LogObj (some la) (some ⟨qb,0,none⟩) lm,RLogObj (some ra) (some ⟨xb,0,none⟩) lm] h
  · have hQ':=hQ
    refine xdrop 1 (xdrop 1 ?_)
    refine xclB (all14_spec b (some ⟨qb,0,none⟩) (some ⟨xb,0,none⟩) l r m G hQ) rdb ?_
    rintro ⟨t,_⟩ _ ⟨h2,rfl⟩
    simp only at h2;subst h2
    exact ca1 (xjoin (xift rfl (works fin)))
end Go.Cx
namespace Go.Cx
open Go Go.Cf
set_option linter.unusedVariables false
set_option maxRecDepth 100000
variable {B:Base}{As F:List HP}{α:Type}
theorem kRow14_spec (n:Int) (h0:0≤n) (h1:n≤4096):Ct Pr F_kit_Row [.int .i64 n] .one [.slice] [] emp (fun t Bs=>∃ bs:List UInt8,t.1.n≤4096∧Bs=[Ar U8 t.1 bs]):=by
  refine spec1 c_kit_Row fun B _=>?_
  unfold kit_Row
  have e:(if n>0 then n else 0)=n:=by split<;>omega
  rw [e]
  refine xmake U8 (by omega) (by omega) (h:=fun b=>?_)
  refine xloop1 (fun m (x:Int) As'=>∃ (k:Nat) (ys:List UInt8),x=(k:Int)∧m=n.toNat - k∧k≤n.toNat∧ys.length=n.toNat∧As'=[Ar U8 ⟨some ⟨b,0,none⟩,n.toNat,n.toNat⟩ ys]) n.toNat ⟨0,List.replicate n.toNat 0,rfl,rfl,by omega,by simp,rfl⟩ ?_
  rintro m _ _ K ⟨k,ys,rfl,rfl,hk,hl,rfl⟩ hK
  refine xif_dec (fun h=>?_) (fun h=>xret ⟨ys,show n.toNat≤4096 by omega,rfl⟩)
  simp only at h
  refine xidxn (h1:=by omega) (h:=fun y hy=>?_)
  rw [wrap_id ((k:Int)*7) (by omega) (by omega),wrap_id _ (by omega) (by omega),show (k:Int)*7+1=((k*7+1:Nat):Int) by omega,wrap_u8]
  refine xsetE (E:=U8) (UInt8.ofNat (k*7+1)) hy (hv:=by simp [U8,UInt8.toNat_ofNat']) (h:=?_)
  rw [wrap_succ k (by omega)]
  exact hK (n.toNat - (k+1)) _ _ (by omega) ⟨k+1,_,rfl,rfl,by omega,by simpa using hl,rfl⟩
theorem star_mem {P:HP}:∀ {As:List HP}{h:Frag},P∈As→star As h→∃ g,P g∧Sub g h
  | [],_,hm,_=>by cases hm
  | Q::As,h,hm,hs=>by
    obtain ⟨a,c,pa,pc,_,sa,sc⟩:=hs
    rcases List.mem_cons.1 hm with rfl | hm
    · exact ⟨a,pa,sa⟩
    · obtain ⟨g,pg,sg⟩:=star_mem hm pc
      exact ⟨g,pg,sg.trans sc⟩
abbrev nilS:Sl:=⟨none,0,0⟩
def RowX (s:Sl):HP:=fun h=>∃ bs:List UInt8,star [Ar U8 s bs] h
theorem opsS_rds {As:List HP}{p:Sl}{os:List OP14}(h1:Ar OPS p os∈As) (h2:∀ o∈os,o.data=nilS∨RowX o.data∈As):Rds B As (OpsS p os):=by
  refine rds_of fun g hg hF hs hm=>?_
  obtain ⟨a,pa,sa⟩:=star_mem h1 hs
  refine ⟨pa.read.mono (sa.trans hm),fun o ho=>?_⟩
  rcases h2 o ho with e | e
  · rw [e];exact ⟨[],rfl,rfl,fun h=>absurd h (by decide)⟩
  · obtain ⟨b,⟨xs,pb⟩,sb⟩:=star_mem e hs
    obtain ⟨c,pc,sc⟩:=star_mem (List.mem_singleton.2 rfl) pb
    exact ⟨xs,pc.read.mono (sc.trans (sb.trans hm))⟩
def good14 (o:OP14):Prop:=i64 o.n∧i64 o.k∧o.data.n≤4096
theorem xrow14 {n:Int}(h0:0≤n) (h1:n≤4096) {K:Sl→WP}(h:∀ s,s.n≤4096→Ent B (RowX s::As) (K s)):Ent B As (XCall Pr F_kit_Row [.int .i64 n] .one [.slice] K):=by
  refine xcall0 (kRow14_spec n h0 h1) rdb ?_
  rintro ⟨s,_⟩ _ ⟨bs,hs,rfl⟩
  exact app1 (ca1 (xfold [Ar U8 s bs] (RowX s) (fun g hg=>⟨bs,hg⟩) (h s hs)))
theorem xbyte14 {z:Int}(hz:z=((UInt8.ofNat z.toNat).toNat:Int)) {T:TypeId}{K:Nat→WP}(h:∀ b,Ent B (RowX ⟨some ⟨b,0,none⟩,1,1⟩::As) (K b)):Ent B As (XNew [.int .u8 z] T K):=by
  rw [hz]
  exact xnew fun b=>xfold1 (Q:=Ar U8 ⟨some ⟨b,0,none⟩,1,1⟩ [UInt8.ofNat z.toNat]) 0 (fun g hg=>⟨[],blk_ar [UInt8.ofNat z.toNat] 1 rfl rfl hg⟩) (xfold [Ar U8 ⟨some ⟨b,0,none⟩,1,1⟩ [UInt8.ofNat z.toNat]] (RowX ⟨some ⟨b,0,none⟩,1,1⟩) (fun g hg=>⟨[UInt8.ofNat z.toNat],hg⟩) (h b))
theorem xruns14 (room:Int) (hroom:room≤65536) (p:Sl) (os:List OP14) (hl:os.length≤1000) (hok:∀ o∈os,good14 o) [FroP B GTab] (h1:Ar OPS p os∈As) (h2:∀ o∈os,o.data=nilS∨RowX o.data∈As)
    {K:Bool→WP}(h:Ent B As (K true)):Ent B As (XCall Pr F_law14_SegsRuns [.int .i64 room,p.v] .one [.bool] K):=by
  refine xcall0 (runs14_spec room hroom p os hl hok) (rds_and (opsS_rds h1 h2) rdb) ?_
  rintro ⟨c,_⟩ _ ⟨hc,rfl⟩
  simp only at hc;subst hc
  exact app0 (ca1 h)
theorem xops14 (os:List OP14) (n:Nat) (hn:os.length=n) {cells:List Value}(hc:flat OPS os=cells) {T:TypeId}{K:Nat→WP}(h:∀ b,Ent B (Ar OPS ⟨some ⟨b,0,none⟩,n,n⟩ os::As) (K b)) (hM:n≤9223372036854775807:=by decide):Ent B As (XNew cells T K):=
  xnew fun b=>xfold1 (Q:=Ar OPS ⟨some ⟨b,0,none⟩,n,n⟩ os) 0 (fun g hg=>⟨[],blk_ar os n hn hc hg hM⟩) (h b)
theorem i64c (n:Int) (h:decide (-9223372036854775808≤n)=true) (h2:decide (n≤9223372036854775807)=true):i64 n:=⟨of_decide_eq_true h,of_decide_eq_true h2⟩
theorem headOf_spec (n first:Nat) (hn:n<9223372036854775808) (hf:first<9223372036854775808):Ct Pr F_law14_headOf [.int .i64 (n:Int),.int .i64 (first:Int)] .one [.slice] [] emp (fun t Bs=>∃ bs:List UInt8,t.1.n≤4096∧bs.length≤1000∧Bs=[Ar U8 t.1 bs]):=by
  refine spec1 c_law14_headOf fun B _=>?_
  unfold law14_headOf
  have w64:∀ k:Nat,k<9223372036854775808→IntKind.u64.wrap (k:Int)=k:=fun k hk=>by
    have q1:(2 ^ IntKind.u64.bits:Int)=18446744073709551616:=by decide
    have q3:IntKind.u64.signed=false:=rfl
    simp only [IntKind.wrap,q1,q3,Bool.false_and]
    simp;omega
  rw [w64 n hn]
  refine xcall0 (packPut_spec ⟨none,0,0⟩ [] n (by omega) (by decide)) (rds_of fun _ _ _ _ _=>⟨rfl,rfl,fun h=>absurd h (Nat.lt_irrefl 0)⟩) ?_
  rintro ⟨s1,e1,_⟩ _ ⟨_,rfl⟩
  refine app1 (ca2 ?_)
  rw [w64 first hf]
  refine xcl (pre:=[]) (packPut_spec s1 ([]++be8 n) first (by omega) (by rw [List.nil_append,be8_len];decide)) rdb ?_
  rintro ⟨s2,e2,_⟩ _ ⟨_,rfl⟩
  refine app1 (ca2 ?_)
  have hl:(([]++be8 n)++be8 first).length=16:=by simp [be8_len]
  refine xcl (pre:=[]) (chunkPut_spec s2 (([]++be8 n)++be8 first) (by rw [hl];decide)) rdb ?_
  rintro ⟨s3,e3,_⟩ _ ⟨_,rfl⟩
  refine app1 (ca2 ?_)
  have hfl:(frameN (([]++be8 n)++be8 first)).length≤1000:=by rw [frame_len,hl];decide
  refine xlen (E:=U8) (xs:=frameN (([]++be8 n)++be8 first)) s3 fun hs _=>?_
  exact xuse [Ar U8 s3 (frameN (([]++be8 n)++be8 first))] (xret ⟨_,show s3.n≤4096 by omega,hfl,rfl⟩)
end Go.Cx
namespace Go.Cx
open Go Go.Cf
set_option linter.unusedVariables false
set_option maxRecDepth 100000
variable {B:Base}{As F:List HP}{α:Type}
abbrev six14:List Int:=[0,1,7,999999999999,1000000000000,4611686018427387904]
abbrev five14:List Int:=[0,5,1099511627775,1099511627776,1099511627777]
abbrev headB:ByteArray:=⟨#[104,101,97,100]⟩
abbrev ops9 (s c1 s1 c2:Sl) (n2:Int) (c0:Sl):List OP14:=[⟨6,0,0,headB,s⟩,⟨0,0,0,ByteArray.empty,c1⟩,⟨0,0,0,ByteArray.empty,s1⟩,⟨0,0,0,ByteArray.empty,c2⟩,⟨3,n2,0,ByteArray.empty,nilS⟩,⟨4,5000,0,ByteArray.empty,nilS⟩,⟨2,4611686018427387904,0,ByteArray.empty,nilS⟩,⟨8,IntKind.i64.wrap ((s.n:Int) - 1),0,headB,nilS⟩,⟨6,0,0,headB,c0⟩]
theorem good9 {s c1 s1 c2 c0:Sl}{n2:Int}(hs:s.n≤4096) (h1:c1.n≤4096) (h2:s1.n≤4096) (h3:c2.n≤4096) (h4:c0.n≤4096) (hn:i64 n2):∀ o∈ops9 s c1 s1 c2 n2 c0,good14 o:=by
  have z:i64 0:=i64c 0 rfl rfl
  have hw:i64 (IntKind.i64.wrap ((s.n:Int) - 1)):=by rw [wrap_id _ (by omega) (by omega)];exact ⟨by omega,by omega⟩
  intro o ho
  simp only [ops9,List.mem_cons,List.not_mem_nil,or_false] at ho
  rcases ho with rfl | rfl | rfl | rfl | rfl | rfl | rfl | rfl | rfl
  · exact ⟨z,z,hs⟩
  · exact ⟨z,z,h1⟩
  · exact ⟨z,z,h2⟩
  · exact ⟨z,z,h3⟩
  · exact ⟨hn,z,Nat.zero_le _⟩
  · exact ⟨i64c 5000 rfl rfl,z,Nat.zero_le _⟩
  · exact ⟨i64c 4611686018427387904 rfl rfl,z,Nat.zero_le _⟩
  · exact ⟨hw,z,Nat.zero_le _⟩
  · exact ⟨z,z,h4⟩
theorem heads14_spec:Ct Pr F_law14_knownHeads [] .one [.bool] [] GTab (fun t Bs=>t.1=true∧Bs=[]):=by
  refine spec1 c_law14_knownHeads fun B hg=>?_
  haveI:FroP B GTab:=⟨hg,fun _ _ h s=>GTab.mono _ _ h s⟩
  unfold law14_knownHeads
  have fin:∀ {As:List HP},Ent B As (Ret B (ss:=[.bool]) (fun t Bs=>t.1=true∧Bs=[]) (true,())):=xkeep (l:=[]) (xret ⟨rfl,rfl⟩)
  refine xnew fun b6=>xfold1 (Q:=Ar I64 ⟨some ⟨b6,0,none⟩,6,6⟩ six14) 0 (fun g hg=>⟨[],blk_ar six14 6 rfl rfl hg⟩) ?_
  refine xnew fun b5=>xfold1 (Q:=Ar I64 ⟨some ⟨b5,0,none⟩,5,5⟩ five14) 0 (fun g hg=>⟨[],blk_ar five14 5 rfl rfl hg⟩) ?_
  refine xuse [Ar I64 ⟨some ⟨b6,0,none⟩,6,6⟩ six14,Ar I64 ⟨some ⟨b5,0,none⟩,5,5⟩ five14] ?_
  refine xloop1 (fun n (z:Int) As'=>∃ i:Nat,z=(i:Int)∧n=6 - i∧i≤6∧As'=[Ar I64 ⟨some ⟨b6,0,none⟩,6,6⟩ six14,Ar I64 ⟨some ⟨b5,0,none⟩,5,5⟩ five14]) 6 ⟨0,rfl,rfl,by omega,rfl⟩ ?_
  rintro n _ _ K ⟨i,rfl,rfl,hi,rfl⟩ hK
  refine xif_dec (fun hlt=>?_) (fun hlt=>?_)
  · refine xloop1 (fun n (z:Int) As'=>∃ k:Nat,z=(k:Int)∧n=5 - k∧k≤5∧As'=[Ar I64 ⟨some ⟨b6,0,none⟩,6,6⟩ six14,Ar I64 ⟨some ⟨b5,0,none⟩,5,5⟩ five14]) 5 ⟨0,rfl,rfl,by omega,rfl⟩ ?_
    rintro n _ _ K2 ⟨k,rfl,rfl,hk,rfl⟩ hK2
    refine xif_dec (fun hlt2=>?_) (fun hlt2=>?_)
    rotate_left
    · rw [wrap_succ i (by omega)]
      exact hK (6 - (i+1)) _ _ (by omega) ⟨i+1,rfl,rfl,by omega,rfl⟩
    have hi6:i<6:=by omega
    have hk5:k<5:=by omega
    obtain ⟨ei,hei⟩:∃ e,six14[i]? = some e:=⟨_,List.getElem?_eq_getElem (show i<six14.length from hi6)⟩
    obtain ⟨ek,hek⟩:∃ e,five14[k]? = some e:=⟨_,List.getElem?_eq_getElem (show k<five14.length from hk5)⟩
    have ii:0≤ei∧ei<9223372036854775808:=by
      have:ei∈six14:=List.mem_of_getElem? hei
      simp only [six14,List.mem_cons,List.not_mem_nil,or_false] at this
      omega
    have ik:0≤ek∧ek<9223372036854775808:=by
      have:ek∈five14:=List.mem_of_getElem? hek
      simp only [five14,List.mem_cons,List.not_mem_nil,or_false] at this
      omega
    obtain ⟨ni,rfl⟩:=Int.eq_ofNat_of_zero_le ii.1
    obtain ⟨nk,rfl⟩:=Int.eq_ofNat_of_zero_le ik.1
    refine xdraw ?_
    refine xidxn (E:=I64) (xs:=six14) (s:=⟨some ⟨b6,0,none⟩,6,6⟩) (h1:=hi6) (h:=fun _ _=>?_)
    refine xgetE (E:=I64) (xs:=six14) hei (h:=?_)
    refine xidxn (E:=I64) (xs:=five14) (s:=⟨some ⟨b5,0,none⟩,5,5⟩) (h1:=hk5) (h:=fun _ _=>?_)
    refine xgetE (E:=I64) (xs:=five14) hek (h:=?_)
    refine xcall0 (headOf_spec ni nk (by omega) (by omega)) rdb ?_
    rintro ⟨s,_⟩ _ ⟨bs,hs,_,rfl⟩
    have hs:s.n≤4096:=hs
    refine app1 (ca1 (xfold [Ar U8 s bs] (RowX s) (fun g hg=>⟨bs,hg⟩) ?_))
    refine xdraw (xjoin1 (fun(l:Sl) As'=>∃ (c1 s1 c2 c0:Sl),l.n=9∧c1.n≤4096∧s1.n≤4096∧c2.n≤4096∧c0.n≤4096∧As'=[Ar OPS l (ops9 s c1 s1 c2 nk c0),RowX s,RowX c1,RowX s1,RowX c2,RowX c0,Ar I64 ⟨some ⟨b6,0,none⟩,6,6⟩ six14,Ar I64 ⟨some ⟨b5,0,none⟩,5,5⟩ five14]) (fun K5 hK5=>?_) ?_)
    · have leaf : ∀ (a1 a2 a0 : Nat) (s1 : Sl) {T : TypeId} {F G : List HP}, s1.n ≤ 4096 → [Split [RowX s, RowX ⟨some ⟨a1, 0, none⟩, 1, 1⟩, RowX s1, RowX ⟨some ⟨a2, 0, none⟩, 1, 1⟩, RowX ⟨some ⟨a0, 0, none⟩, 1, 1⟩, Ar I64 ⟨some ⟨b6, 0, none⟩, 6, 6⟩ six14, Ar I64 ⟨some ⟨b5, 0, none⟩, 5, 5⟩ five14] F G] →
          Ent B F (XNew [.int .i64 6,.int .i64 0,.int .i64 0,.string headB,s.v,.int .i64 0,.int .i64 0,.int .i64 0,.string ByteArray.empty,.slice (some ⟨a1,0,none⟩) 1 1,.int .i64 0,.int .i64 0,.int .i64 0,.string ByteArray.empty,s1.v,.int .i64 0,.int .i64 0,.int .i64 0,.string ByteArray.empty,.slice (some ⟨a2,0,none⟩) 1 1,.int .i64 3,.int .i64 (nk:Int),.int .i64 0,.string ByteArray.empty,.slice none 0 0,.int .i64 4,.int .i64 5000,.int .i64 0,.string ByteArray.empty,.slice none 0 0,.int .i64 2,.int .i64 4611686018427387904,.int .i64 0,.string ByteArray.empty,.slice none 0 0,.int .i64 8,.int .i64 (IntKind.i64.wrap ((s.n:Int) - 1)),.int .i64 0,.string headB,.slice none 0 0,.int .i64 6,.int .i64 0,.int .i64 0,.string headB,.slice (some ⟨a0,0,none⟩) 1 1] T fun b=>K5 ⟨some ⟨b,0,none⟩,9,9⟩):=by
        intro a1 a2 a0 s1 T F G q1 _
        refine xuse [RowX s,RowX ⟨some ⟨a1,0,none⟩,1,1⟩,RowX s1,RowX ⟨some ⟨a2,0,none⟩,1,1⟩,RowX ⟨some ⟨a0,0,none⟩,1,1⟩,Ar I64 ⟨some ⟨b6,0,none⟩,6,6⟩ six14,Ar I64 ⟨some ⟨b5,0,none⟩,5,5⟩ five14] ?_
        exact xops14 (ops9 s ⟨some ⟨a1,0,none⟩,1,1⟩ s1 ⟨some ⟨a2,0,none⟩,1,1⟩ nk ⟨some ⟨a0,0,none⟩,1,1⟩) 9 rfl rfl fun b=>hK5 _ _ ⟨⟨some ⟨a1,0,none⟩,1,1⟩,s1,⟨some ⟨a2,0,none⟩,1,1⟩,⟨some ⟨a0,0,none⟩,1,1⟩,rfl,show 1≤4096 by decide,q1,show 1≤4096 by decide,show 1≤4096 by decide,rfl⟩
      refine xidxn (E:=I64) (xs:=five14) (s:=⟨some ⟨b5,0,none⟩,5,5⟩) (h1:=hk5) (h:=fun _ _=>?_)
      refine xgetE (E:=I64) (xs:=five14) hek (h:=?_)
      have chkk:∀ {As:List HP}{K:WP} [RdA B As ⟨some ⟨b5,0,none⟩,5,5⟩ I64 five14],Ent B As K→Ent B As (XChk ((⟨some ⟨b5,0,none⟩,5,5⟩:Sl).at 1 k) (.int .i64 (nk:Int)) K):=fun h=>xchkE (E:=I64) (xs:=five14) hek (h:=h)
      repeat' (first
        | with_reducible refine chkk ?_
        | with_reducible refine xand ?_ ?_
        | with_reducible refine xrow14 (by decide) (by decide) fun _ _=>?_
        | with_reducible refine xbyte14 rfl fun _=>?_)
      all_goals (refine leaf _ _ _ _ ?_;assumption)
    · rintro l _ ⟨c1,s1,c2,c0,hln,q1,q2,q3,q4,rfl⟩
      refine xruns14 65536 (by decide) l (ops9 s c1 s1 c2 nk c0) (show 9≤1000 by decide) (good9 hs q1 q2 q3 q4 ⟨by omega,by omega⟩) (List.mem_cons_self ..) ?_ ?_
      · intro o ho
        simp only [ops9,List.mem_cons,List.not_mem_nil,or_false] at ho
        rcases ho with rfl | rfl | rfl | rfl | rfl | rfl | rfl | rfl | rfl<;>simp
      · refine xiff rfl ?_
        rw [wrap_succ k (by omega)]
        exact xuse [Ar I64 ⟨some ⟨b6,0,none⟩,6,6⟩ six14,Ar I64 ⟨some ⟨b5,0,none⟩,5,5⟩ five14] (hK2 (5 - (k+1)) _ _ (by omega) ⟨k+1,rfl,rfl,by omega,rfl⟩)
  · refine xcall0 (headOf_spec 1 0 (by decide) (by decide)) rdb ?_
    rintro ⟨s,_⟩ _ ⟨bs,hs,hbs,rfl⟩
    refine app1 (ca1 (xnew fun b0=>?_))
    refine xfold1 (Q:=Ar U8 ⟨some ⟨b0,0,none⟩,1,1⟩ [0]) 0 (fun g hg=>⟨[],blk_ar [0] 1 rfl rfl hg⟩) ?_
    refine xapp (E:=U8) (s:=s) (xs:=bs) (y:=⟨some ⟨b0,0,none⟩,1,1⟩) (ys:=[0]) (hb:=by simp;omega) (h:=fun s2=>?_)
    refine xlen (E:=U8) (xs:=bs++[0]) s2 fun hs2 _=>?_
    have hs2':s2.n≤4096:=by simp at hs2;omega
    refine xfold [Ar U8 s2 (bs++[0])] (RowX s2) (fun g hg=>⟨_,hg⟩) ?_
    refine xops14 [⟨6,0,0,headB,s2⟩,⟨7,0,0,headB,nilS⟩,⟨6,0,0,headB,nilS⟩] 3 rfl rfl fun b=>?_
    refine xruns14 65536 (by decide) _ [⟨6,0,0,headB,s2⟩,⟨7,0,0,headB,nilS⟩,⟨6,0,0,headB,nilS⟩] (show 3≤1000 by decide) (fun o ho=>?_) (List.mem_cons_self ..) (fun o ho=>?_) fin
    · simp only [List.mem_cons,List.not_mem_nil,or_false] at ho
      have z:i64 0:=i64c 0 rfl rfl
      rcases ho with rfl | rfl | rfl
      · exact ⟨z,z,hs2'⟩
      · exact ⟨z,z,Nat.zero_le _⟩
      · exact ⟨z,z,Nat.zero_le _⟩
    · simp only [List.mem_cons,List.not_mem_nil,or_false] at ho
      rcases ho with rfl | rfl | rfl<;>simp
end Go.Cx
