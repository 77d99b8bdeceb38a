/-
  A laid variable of two numbers: its cells.
  The law of the pair: the chapter's example.
  The laid variables of the index seat as they lie.
-/
import Derived.Test.YtlcnhajfgilipaaGreatDoorNY
import Derived.Lib.LaidTab
import Derived.Test.YtlcnhajfgilipaaGreatDoorNX
import Derived.Test.YtlcnhajfgilipaaGreatDoorFK7
import Derived.Test.YtlcnhajfgilipaaGreatDoorS1
import Derived.Test.YtlcnhajfgilipaaGreatDoorA3
import Derived.OpenShut
import Derived.WalkKit
import Derived.ProofKit
namespace Go.Cx
open Go Go.Cf
set_option linter.unusedVariables false
set_option maxRecDepth 100000
def fieldsOf (P:Program) (t:TypeId):Option (List (Nat×TypeId)):=match P.underlying t with
  | some (.struct fs)=>some (fs.toList.map fun f=>(f.offset,f.type))
  | _=>none
theorem two_of {α:Type}:∀ {L:List α},L.length=2→∃ a b,L=[a,b]
  | [a,b],_=>⟨a,b,rfl⟩
theorem cells_of_pair {H:Type}{enc:TypeId×Value→H}{P:Program}{w:World}{base:Nat}{sp:Nat→Bool}{held:Bool}{fuel:Nat}{t e:TypeId}{cs:List Value}{a b:Int}{p:List MemPlace}
    (ht:fieldsOf P t=some [(0,e),(1,e)]) (he:P.underlying e=some (.int .i64)) (hce:P.cellsOf e=1) (hct:P.cellsOf t=2)
    (h:DataW.trod enc P w base sp held fuel t cs=some (.agg [.lit (.int .i64 a),.lit (.int .i64 b)],p)):cs=[.int .i64 a,.int .i64 b]:=by
  cases fuel with
  | zero=>simp [DataW.trod] at h
  | succ fuel=>
    unfold fieldsOf at ht
    split at ht
    rotate_left
    · cases ht
    rename_i fs hu
    have ht:=Option.some.inj ht
    simp only [DataW.trod,hu,hct] at h
    split at h
    rotate_left
    · cases h
    rename_i hl
    obtain ⟨xs,hm,hx⟩:=Option.map_eq_some_iff.1 h
    generalize fs.toList=L at *
    obtain ⟨f1,f2,rfl⟩:∃ f1 f2,L=[f1,f2]:=two_of (by have:=congrArg List.length ht;simpa using this)
    simp only [List.map_cons,List.map_nil,List.cons.injEq,Prod.mk.injEq,and_true] at ht
    obtain ⟨⟨o1,t1⟩,o2,t2⟩:=ht
    rw [List.mapM_cons] at hm
    obtain ⟨y1,h1,hm⟩:=Option.bind_eq_some_iff.1 hm
    obtain ⟨ys,k2,hm⟩:=Option.bind_eq_some_iff.1 hm
    obtain rfl:=(Option.some.inj hm).symm
    rw [List.mapM_cons] at k2
    obtain ⟨y2,g2,hm2⟩:=Option.bind_eq_some_iff.1 k2
    obtain ⟨zs,h3,hm3⟩:=Option.bind_eq_some_iff.1 hm2
    obtain rfl:=(Option.some.inj hm3).symm
    obtain rfl:zs=[]:=by simpa using h3.symm
    rw [o1,t1,hce] at h1
    rw [o2,t2,hce] at g2
    obtain ⟨n1,c1,rfl,_⟩:=DataW.trod_int he h1
    obtain ⟨n2,c2,rfl,_⟩:=DataW.trod_int he g2
    obtain ⟨x,y,rfl⟩:=two_of hl
    simp at c1 c2
    subst c1 c2
    have:=congrArg Prod.fst hx
    simp at this
    obtain ⟨rfl,rfl⟩:=this
    rfl
end Go.Cx
namespace Go.Cx
open Go Go.Cf
set_option linter.unusedVariables false
set_option maxRecDepth 100000
variable {B:Base}{As F:List HP}{α:Type}
theorem kRow_spec (n:Int) (h0:0≤n) (h1:n≤1000000):Ct Pr F_kit_Row [.int .i64 n] .one [.slice] [] emp (fun t Bs=>∃ bs:List UInt8,Bs=[Ar U8 t.1 bs]):=by
  refine spec1 c_kit_Row fun B _=>?_
  unfold kit_Row
  have e:(if n>0 then n else 0)=n:=by split<;>omega
  rw [e]
  refine xmake U8 (by omega) (by omega) (h:=fun b=>?_)
  refine xloop1 (fun m (x:Int) As'=>∃ (k:Nat) (ys:List UInt8),x=(k:Int)∧m=n.toNat - k∧k≤n.toNat∧ys.length=n.toNat∧As'=[Ar U8 ⟨some ⟨b,0,none⟩,n.toNat,n.toNat⟩ ys]) n.toNat ⟨0,List.replicate n.toNat 0,rfl,rfl,by omega,by simp,rfl⟩ ?_
  rintro m _ _ K ⟨k,ys,rfl,rfl,hk,hl,rfl⟩ hK
  refine xif_dec (fun h=>?_) (fun h=>xret ⟨ys,rfl⟩)
  simp only at h
  refine xidxn (h1:=by omega) (h:=fun y hy=>?_)
  rw [wrap_id ((k:Int)*7) (by omega) (by omega),wrap_id _ (by omega) (by omega),show (k:Int)*7+1=((k*7+1:Nat):Int) by omega,wrap_u8]
  refine xsetE (E:=U8) (UInt8.ofNat (k*7+1)) hy (hv:=by simp [U8,UInt8.toNat_ofNat']) (h:=?_)
  rw [wrap_succ k (by omega)]
  exact hK (n.toNat - (k+1)) _ _ (by omega) ⟨k+1,_,rfl,rfl,by omega,by simpa using hl,rfl⟩
abbrev lm16:LM:=(fill0 wps16).2
abbrev m16:DM:=(dropM (fill0 wps16).1 idxNew).1
theorem save16:(saveM m16 lm16.lo (openX lm16)).2.2=0∧(readM (saveM m16 lm16.lo (openX lm16)).1 idxN).1.length=54:=by decide +kernel
theorem lo16:lm16.lo=0∧(lm16.next - lm16.lo).toNat=4:=by decide +kernel
theorem x16:XTime (openX lm16)∧RInv (openX lm16):=by
  refine ⟨?_,(openTo_rinv lm16 (by rw [lo16.1];decide) _ (by rw [lo16.2];decide)).1⟩
  exact openTo_time lm16 (by rw [lo16.1];decide) _
theorem star_mem {P:HP}:∀ {As:List HP}{h:Frag},P∈As→star As h→∃ g,P g∧Sub g h
  | [],_,hm,_=>by cases hm
  | Q::As,h,hm,hs=>by
    obtain ⟨a,c,pa,pc,_,sa,sc⟩:=hs
    rcases List.mem_cons.1 hm with rfl | hm
    · exact ⟨a,pa,sa⟩
    · obtain ⟨g,pg,sg⟩:=star_mem hm pc
      exact ⟨g,pg,sg.trans sc⟩
abbrev nilS:Sl:=⟨none,0,0⟩
def RowX (s:Sl):HP:=fun h=>∃ bs:List UInt8,star [Ar U8 s bs] h
theorem ops_rds {As:List HP}{p:Sl}{os:List OP16}(h1:Ar OPE p os∈As) (h2:∀ o∈os,o.data=nilS∨(∃ xs:List UInt8,Ar U8 o.data xs∈As)∨RowX o.data∈As):Rds B As (OpsAt p os):=by
  refine rds_of fun g hg hF hs hm=>?_
  obtain ⟨a,pa,sa⟩:=star_mem h1 hs
  refine ⟨pa.read.mono (sa.trans hm),fun o ho=>?_⟩
  rcases h2 o ho with e | ⟨xs,e⟩ | e
  · rw [e];exact ⟨[],rfl,rfl,fun h=>absurd h (by decide)⟩
  · obtain ⟨b,pb,sb⟩:=star_mem e hs
    exact ⟨xs,pb.read.mono (sb.trans hm)⟩
  · obtain ⟨b,⟨xs,pb⟩,sb⟩:=star_mem e hs
    obtain ⟨c,pc,sc⟩:=star_mem (List.mem_singleton.2 rfl) pb
    exact ⟨xs,pc.read.mono (sc.trans (sb.trans hm))⟩
theorem xsample (t:Int) {K:Int→Int→ByteArray→Int→Int→WP}(h:Ent B As (K 1 t aB 1 0)):Ent B As (XCall Pr F_law16_sample [.int .i64 t] .agg [.int .i64,.int .i64,.str,.int .i64,.int .i64] K):=by
  refine xcall0 (sample_spec t) rdb ?_
  rintro _ _ ⟨rfl,rfl⟩
  exact app0 h
theorem xrow {K:Sl→WP}(h:∀ s,Ent B (RowX s::As) (K s)):Ent B As (XCall Pr F_kit_Row [.int .i64 40] .one [.slice] K):=by
  refine xcall0 (kRow_spec 40 (by decide) (by decide)) rdb ?_
  rintro ⟨s,_⟩ _ ⟨bs,rfl⟩
  refine app1 (ca1 (xfold [Ar U8 s bs] (RowX s) (fun g hg=>⟨bs,hg⟩) (h s)))
def goodO (o:OP16):Prop:=i64 o.n∧o.r.tag.size≤4096
theorem xruns (room:Int) (hroom:room≤65536) (p:Sl) (os:List OP16) (hl:os.length≤1000) (hok:∀ o∈os,goodO o) [FroP B GTab] [FroP B GBeh] (h1:Ar OPE p os∈As) (h2:∀ o∈os,o.data=nilS∨(∃ xs:List UInt8,Ar U8 o.data xs∈As)∨RowX o.data∈As)
    {K:Bool→WP}(h:Ent B As (K true)):Ent B As (XCall Pr F_law16_IndexRuns [.int .i64 room,p.v] .one [.bool] K):=by
  refine xcall0 (runs16_spec room hroom p os hl hok) (rds_and (ops_rds h1 h2) (rds_and rdb rdb)) ?_
  rintro ⟨c,_⟩ _ ⟨hc,rfl⟩
  simp only at hc;subst hc
  exact app0 (ca1 h)
abbrev opz (k n kk:Int) (nm:ByteArray) (s:Sl):OP16:=⟨k,n,kk,0,rec0,nm,s⟩
abbrev nine (b1:Nat):List OP16:=[opz 1 0 0 ByteArray.empty ⟨some ⟨b1,0,none⟩,1,1⟩,opz 3 0 0 ByteArray.empty nilS,opz 5 60 0 ByteArray.empty nilS,opz 6 0 0 ByteArray.empty nilS,opz 5 60 0 ByteArray.empty nilS,opz 3 0 0 ByteArray.empty nilS,opz 4 3 5 ByteArray.empty nilS,opz 7 3 0 ByteArray.empty nilS,opz 4 0 99 ByteArray.empty nilS]
abbrev ends16:List Int:=[-9223372036854775808,-1,0,1,2,3,1099511627775,1099511627776,1099511627777,9223372036854775807]
abbrev smpO (t:Int):OP16:=⟨0,0,0,0,⟨1,t,aB,1,0⟩,ByteArray.empty,nilS⟩
abbrev ops17 (n n1 n2 n3 n4 n5 i k:Int) (b4 b5:Nat) (s:Sl):List OP16:=[smpO 5,smpO 3,opz 2 n n1 ByteArray.empty nilS,opz 2 1 n2 ByteArray.empty nilS,opz 4 n3 n4 ByteArray.empty nilS,⟨4,0,9,n5,rec0,ByteArray.empty,nilS⟩,opz 8 i 0 ByteArray.empty nilS,opz 3 0 0 ByteArray.empty nilS,opz 2 9 1099511627776 ByteArray.empty nilS,opz 7 k 0 ByteArray.empty nilS,opz 3 0 0 ByteArray.empty nilS,
  opz 9 0 0 idxN ⟨some ⟨b4,0,none⟩,1,1⟩,opz 9 0 0 idxNew nilS,opz 10 0 0 ByteArray.empty s,opz 3 0 0 ByteArray.empty nilS,opz 9 0 0 idxNew ⟨some ⟨b5,0,none⟩,1,1⟩,opz 3 0 0 ByteArray.empty nilS]
abbrev cells17 (n n1 n2 n3 n4 n5 i k:Int) (b4 b5:Nat) (s:Sl):List Value:=[.int .i64 0,.int .i64 0,.int .i64 0,.int .i64 0,.int .i64 1,.int .i64 5,.string aB,.int .i64 1,.int .i64 0,.string ByteArray.empty,.slice none 0 0,
  .int .i64 0,.int .i64 0,.int .i64 0,.int .i64 0,.int .i64 1,.int .i64 3,.string aB,.int .i64 1,.int .i64 0,.string ByteArray.empty,.slice none 0 0,
  .int .i64 2,.int .i64 n,.int .i64 n1,.int .i64 0,.int .i64 0,.int .i64 0,.string ByteArray.empty,.int .i64 0,.int .i64 0,.string ByteArray.empty,.slice none 0 0,
  .int .i64 2,.int .i64 1,.int .i64 n2,.int .i64 0,.int .i64 0,.int .i64 0,.string ByteArray.empty,.int .i64 0,.int .i64 0,.string ByteArray.empty,.slice none 0 0,
  .int .i64 4,.int .i64 n3,.int .i64 n4,.int .i64 0,.int .i64 0,.int .i64 0,.string ByteArray.empty,.int .i64 0,.int .i64 0,.string ByteArray.empty,.slice none 0 0,
  .int .i64 4,.int .i64 0,.int .i64 9,.int .i64 n5,.int .i64 0,.int .i64 0,.string ByteArray.empty,.int .i64 0,.int .i64 0,.string ByteArray.empty,.slice none 0 0,
  .int .i64 8,.int .i64 i,.int .i64 0,.int .i64 0,.int .i64 0,.int .i64 0,.string ByteArray.empty,.int .i64 0,.int .i64 0,.string ByteArray.empty,.slice none 0 0,
  .int .i64 3,.int .i64 0,.int .i64 0,.int .i64 0,.int .i64 0,.int .i64 0,.string ByteArray.empty,.int .i64 0,.int .i64 0,.string ByteArray.empty,.slice none 0 0,
  .int .i64 2,.int .i64 9,.int .i64 1099511627776,.int .i64 0,.int .i64 0,.int .i64 0,.string ByteArray.empty,.int .i64 0,.int .i64 0,.string ByteArray.empty,.slice none 0 0,
  .int .i64 7,.int .i64 k,.int .i64 0,.int .i64 0,.int .i64 0,.int .i64 0,.string ByteArray.empty,.int .i64 0,.int .i64 0,.string ByteArray.empty,.slice none 0 0,
  .int .i64 3,.int .i64 0,.int .i64 0,.int .i64 0,.int .i64 0,.int .i64 0,.string ByteArray.empty,.int .i64 0,.int .i64 0,.string ByteArray.empty,.slice none 0 0,
  .int .i64 9,.int .i64 0,.int .i64 0,.int .i64 0,.int .i64 0,.int .i64 0,.string ByteArray.empty,.int .i64 0,.int .i64 0,.string idxN,.slice (some ⟨b4,0,none⟩) 1 1,
  .int .i64 9,.int .i64 0,.int .i64 0,.int .i64 0,.int .i64 0,.int .i64 0,.string ByteArray.empty,.int .i64 0,.int .i64 0,.string idxNew,.slice none 0 0,
  .int .i64 10,.int .i64 0,.int .i64 0,.int .i64 0,.int .i64 0,.int .i64 0,.string ByteArray.empty,.int .i64 0,.int .i64 0,.string ByteArray.empty,s.v,
  .int .i64 3,.int .i64 0,.int .i64 0,.int .i64 0,.int .i64 0,.int .i64 0,.string ByteArray.empty,.int .i64 0,.int .i64 0,.string ByteArray.empty,.slice none 0 0,
  .int .i64 9,.int .i64 0,.int .i64 0,.int .i64 0,.int .i64 0,.int .i64 0,.string ByteArray.empty,.int .i64 0,.int .i64 0,.string idxNew,.slice (some ⟨b5,0,none⟩) 1 1,
  .int .i64 3,.int .i64 0,.int .i64 0,.int .i64 0,.int .i64 0,.int .i64 0,.string ByteArray.empty,.int .i64 0,.int .i64 0,.string ByteArray.empty,.slice none 0 0]
theorem flat17 (n n1 n2 n3 n4 n5 i k:Int) (b4 b5:Nat) (s:Sl):flat OPE (ops17 n n1 n2 n3 n4 n5 i k b4 b5 s)=cells17 n n1 n2 n3 n4 n5 i k b4 b5 s:=rfl
theorem goodSmp (t:Int):goodO (smpO t):=⟨⟨show (-9223372036854775808:Int)≤0 by decide,show (0:Int)≤9223372036854775807 by decide⟩,show aB.size≤4096 by decide⟩
theorem goodZ (k n kk f:Int) (nm:ByteArray) (s:Sl) (h:i64 n):goodO ⟨k,n,kk,f,rec0,nm,s⟩:=⟨h,show ByteArray.empty.size≤4096 by decide⟩
theorem i64_c (n:Int) (h:decide (-9223372036854775808≤n)=true) (h2:decide (n≤9223372036854775807)=true):i64 n:=⟨of_decide_eq_true h,of_decide_eq_true h2⟩
set_option maxHeartbeats 1000000 in
theorem iknown_spec:Ct Pr F_law16_IndexKnown [] .one [.bool] [] (GTab.and GBeh) (fun t Bs=>t.1=true∧Bs=[]):=by
  refine spec1 c_law16_IKn fun B hg=>?_
  haveI:FroP B GTab:=⟨hg.1,fun _ _ h s=>GTab.mono _ _ h s⟩
  haveI:FroP B GBeh:=⟨hg.2,fun _ _ h s=>GBeh.mono _ _ h s⟩
  unfold law16_IKn
  refine xnone OPE ?_
  refine xloop2 (fun n (l:Sl) (z:Int) As'=>∃ (k:Nat) (os:List OP16),z=(k:Int)∧n=66 - k∧k≤66∧os.length=k∧(∀ o∈os,goodO o∧o.data=nilS)∧As'=[Ar OPE l os]) 66 ⟨0,[],rfl,rfl,by omega,rfl,(fun o ho=>(by cases ho)),rfl⟩ ?_
  rintro n l _ _ K ⟨i,os,rfl,rfl,hi,hlen,hos,rfl⟩ hK
  refine xif_dec (fun hlt=>?_) (fun hlt=>?_)
  · refine xasrt (by decide) (xsample _ (xnew fun b=>?_))
    generalize ((IntKind.i64.wrap ((i:Int)*7)).tmod 10)=t
    refine xapp1 (E:=OPE) (s:=l) (smpO t) (hb:=by omega) (h:=fun s'=>?_)
    rw [wrap_succ i (by omega)]
    refine hK (66 - (i+1)) _ _ _ (by omega) ⟨i+1,os++[smpO t],rfl,rfl,by omega,by simp [hlen],fun o ho=>?_,rfl⟩
    rcases List.mem_append.1 ho with ho | ho
    · exact hos o ho
    · obtain rfl:=List.mem_singleton.1 ho
      exact ⟨goodSmp t,rfl⟩
  clear hK K
  refine xnew fun b1=>xnew fun b2=>?_
  refine xfold1 (Q:=Ar OPE ⟨some ⟨b2,0,none⟩,9,9⟩ (nine b1)) 0 (fun g hg=>⟨[],blk_ar (nine b1) 9 rfl rfl hg⟩) ?_
  refine xfold1 (Q:=Ar U8 ⟨some ⟨b1,0,none⟩,1,1⟩ [7]) 1 (fun g hg=>⟨[],blk_ar [7] 1 rfl rfl hg⟩) ?_
  refine xapp (E:=OPE) (s:=l) (y:=⟨some ⟨b2,0,none⟩,9,9⟩) (ys:=nine b1) (hb:=by simp;omega) (h:=fun s1=>?_)
  have hgood:∀ o∈os++nine b1,goodO o:=by
    intro o ho
    rcases List.mem_append.1 ho with ho | ho
    · exact (hos o ho).1
    · simp only [nine,List.mem_cons,List.not_mem_nil,or_false] at ho
      rcases ho with rfl | rfl | rfl | rfl | rfl | rfl | rfl | rfl | rfl<;>exact goodZ _ _ _ _ _ _ (i64_c _ rfl rfl)
  have hdat:∀ o∈os++nine b1,o.data=nilS∨(∃ xs:List UInt8,Ar U8 o.data xs∈[Ar OPE s1 (os++nine b1),Ar U8 ⟨some ⟨b1,0,none⟩,1,1⟩ [7]])∨RowX o.data∈[Ar OPE s1 (os++nine b1),Ar U8 ⟨some ⟨b1,0,none⟩,1,1⟩ [7]]:=by
    intro o ho
    rcases List.mem_append.1 ho with ho | ho
    · exact .inl (hos o ho).2
    · simp only [nine,List.mem_cons,List.not_mem_nil,or_false] at ho
      rcases ho with rfl | rfl | rfl | rfl | rfl | rfl | rfl | rfl | rfl<;>first | exact .inl rfl | exact .inr (.inl ⟨[7],List.mem_cons_of_mem _ (List.mem_cons_self ..)⟩)
  have hl9:(os++nine b1).length≤1000:=by simp [nine];omega
  refine xuse [Ar OPE s1 (os++nine b1),Ar U8 ⟨some ⟨b1,0,none⟩,1,1⟩ [7]] ?_
  refine xruns 65536 (by decide) s1 _ hl9 hgood (List.mem_cons_self ..) hdat ?_
  refine xjoin (xiff rfl ?_)
  refine xruns 3000 (by decide) s1 _ hl9 hgood (List.mem_cons_self ..) hdat ?_
  refine xjoin (xiff rfl ?_)
  refine xruns 1500 (by decide) s1 _ hl9 hgood (List.mem_cons_self ..) hdat ?_
  refine xiff rfl (xkeep (l:=[]) ?_)
  with_reducible refine xnew fun b3 => ?_
  have hb3 : ∀ g, Blk b3 [.int .i64 (-9223372036854775808), .int .i64 (-1), .int .i64 0, .int .i64 1, .int .i64 2, .int .i64 3, .int .i64 1099511627775, .int .i64 1099511627776, .int .i64 1099511627777, .int .i64 9223372036854775807] g → Ar I64 ⟨some ⟨b3, 0, none⟩, 10, 10⟩ ends16 g := fun g hg => ⟨[], blk_ar ends16 10 rfl rfl hg⟩
  with_reducible refine xfold1 0 hb3 ?_
  with_reducible refine xeq (t_law16_IKn_2 (e1:=⟨some ⟨b3,0,none⟩,10,10⟩) (e2:=⟨some ⟨b3,0,none⟩,10,10⟩) (e12:=⟨some ⟨b2,0,none⟩,9,9⟩) (e21_10:=⟨some ⟨b1,0,none⟩,1,1⟩) (e22:=⟨some ⟨b1,0,none⟩,1,1⟩)) ?_
  unfold law16_IKn_2
  simp only
  have wrapk:∀ k:Nat,k<10→IntKind.i64.wrap ((k:Int)+1)=((k+1:Nat):Int):=fun k hk=>wrap_succ k (by omega)
  have hends:∀ (k:Nat) (e:Int),ends16[k]? = some e→i64 e:=by
    intro k e h
    have:e∈ends16:=List.mem_of_getElem? h
    simp only [ends16,List.mem_cons,List.not_mem_nil,or_false] at this
    rcases this with rfl | rfl | rfl | rfl | rfl | rfl | rfl | rfl | rfl | rfl<;>exact i64_c _ rfl rfl
  let E16:HP:=Ar I64 ⟨some ⟨b3,0,none⟩,10,10⟩ ends16
  refine xuse [E16] ?_
  refine xloop1 (fun n (z:Int) As'=>∃ i:Nat,z=(i:Int)∧n=10 - i∧i≤10∧As'=[E16]) 10 ⟨0,rfl,rfl,by omega,rfl⟩ ?_
  rintro n _ _ K ⟨i,rfl,rfl,hi,rfl⟩ hK
  refine xif_dec (fun hlt=>?_) (fun hlt=>?_)
  · refine xloop1 (fun n (z:Int) As'=>∃ k:Nat,z=(k:Int)∧n=10 - k∧k≤10∧As'=[E16]) 10 ⟨0,rfl,rfl,by omega,rfl⟩ ?_
    rintro n _ _ K2 ⟨k,rfl,rfl,hk,rfl⟩ hK2
    refine xif_dec (fun hlt2=>?_) (fun hlt2=>?_)
    rotate_left
    · rw [wrapk i (by omega)]
      exact hK (10 - (i+1)) _ _ (by omega) ⟨i+1,rfl,rfl,by omega,rfl⟩
    obtain ⟨ei,hei⟩:∃ e,ends16[i]? = some e:=⟨_,List.getElem?_eq_getElem (show i<ends16.length from (by omega:i<10))⟩
    obtain ⟨ek,hek⟩:∃ e,ends16[k]? = some e:=⟨_,List.getElem?_eq_getElem (show k<ends16.length from (by omega:k<10))⟩
    have ii:=hends i ei hei
    have ik:=hends k ek hek
    refine xdraw (xjoin1 (fun(p:Sl) As'=>∃ (b4 b5:Nat) (s2:Sl),As'=[Ar OPE p (ops17 ei ek ei ei ek ei i k b4 b5 s2),Ar U8 ⟨some ⟨b4,0,none⟩,1,1⟩ [1],Ar U8 ⟨some ⟨b5,0,none⟩,1,1⟩ [2],RowX s2,E16]) (fun K5 hK5=>?_) ?_)
    · have leaf : ∀ (b4 b5 b6 : Nat) (s2 : Sl) {F G : List HP} [Split [Blk b4 [.int .u8 1], Blk b5 [.int .u8 2], RowX s2, E16] F G],
          Ent B (Blk b6 (cells17 ei ek ei ei ek ei i k b4 b5 s2)::F) (K5 ⟨some ⟨b6,0,none⟩,17,17⟩):=by
        intro b4 b5 b6 s2 F G _
        refine xfold1 (Q:=Ar OPE ⟨some ⟨b6,0,none⟩,17,17⟩ (ops17 ei ek ei ei ek ei i k b4 b5 s2)) 0 (fun g hg=>⟨[],blk_ar (ops17 ei ek ei ei ek ei i k b4 b5 s2) 17 rfl (flat17 ..) hg⟩) ?_
        refine xord [Ar OPE ⟨some ⟨b6,0,none⟩,17,17⟩ (ops17 ei ek ei ei ek ei i k b4 b5 s2),Blk b4 [.int .u8 1],Blk b5 [.int .u8 2],RowX s2,E16] ?_
        refine xkeep ?_
        refine xfold1 (Q:=Ar U8 ⟨some ⟨b4,0,none⟩,1,1⟩ [1]) 1 (fun g hg=>⟨[],blk_ar [1] 1 rfl rfl hg⟩) ?_
        refine xfold1 (Q:=Ar U8 ⟨some ⟨b5,0,none⟩,1,1⟩ [2]) 2 (fun g hg=>⟨[],blk_ar [2] 1 rfl rfl hg⟩) ?_
        exact xuse' (hK5 _ _ ⟨b4,b5,s2,rfl⟩)
      iterate 3 (refine xidxn (E:=I64) (xs:=ends16) (s:=⟨some ⟨b3,0,none⟩,10,10⟩) (h1:=(by omega:_<10)) (h:=fun _ _=>?_);first | refine xgetE (E:=I64) (xs:=ends16) hei (h:=?_) | refine xgetE (E:=I64) (xs:=ends16) hek (h:=?_))
      iterate 3 (refine xidxn (E:=I64) (xs:=ends16) (s:=⟨some ⟨b3,0,none⟩,10,10⟩) (h1:=(by omega:_<10)) (h:=fun _ _=>?_);first | refine xgetE (E:=I64) (xs:=ends16) hei (h:=?_) | refine xgetE (E:=I64) (xs:=ends16) hek (h:=?_))
      have chki:∀ {As:List HP}{K:WP} [RdA B As ⟨some ⟨b3,0,none⟩,10,10⟩ I64 ends16],Ent B As K→Ent B As (XChk ((⟨some ⟨b3,0,none⟩,10,10⟩:Sl).at 1 i) (.int .i64 ei) K):=fun h=>xchkE (E:=I64) (xs:=ends16) hei (h:=h)
      have chkk:∀ {As:List HP}{K:WP} [RdA B As ⟨some ⟨b3,0,none⟩,10,10⟩ I64 ends16],Ent B As K→Ent B As (XChk ((⟨some ⟨b3,0,none⟩,10,10⟩:Sl).at 1 k) (.int .i64 ek) K):=fun h=>xchkE (E:=I64) (xs:=ends16) hek (h:=h)
      repeat' (first
        | with_reducible refine chki ?_
        | with_reducible refine chkk ?_
        | with_reducible refine xand ?_ ?_
        | with_reducible refine xsample _ ?_
        | with_reducible refine xrow fun _=>?_
        | with_reducible refine xnew fun _=>?_)
      all_goals (with_reducible exact leaf _ _ _ _)
    · rintro p _ ⟨b4,b5,s2,rfl⟩
      have hg17:∀ o∈ops17 ei ek ei ei ek ei i k b4 b5 s2,goodO o:=by
        intro o ho
        simp only [ops17,List.mem_cons,List.not_mem_nil,or_false] at ho
        rcases ho with rfl | rfl | rfl | rfl | rfl | rfl | rfl | rfl | rfl | rfl | rfl | rfl | rfl | rfl | rfl | rfl | rfl
        · exact goodSmp 5
        · exact goodSmp 3
        · exact goodZ _ _ _ _ _ _ ii
        · exact goodZ _ _ _ _ _ _ (i64_c _ rfl rfl)
        · exact goodZ _ _ _ _ _ _ ii
        · exact goodZ _ _ _ _ _ _ (i64_c _ rfl rfl)
        · exact goodZ _ _ _ _ _ _ ⟨by omega,by omega⟩
        · exact goodZ _ _ _ _ _ _ (i64_c _ rfl rfl)
        · exact goodZ _ _ _ _ _ _ (i64_c _ rfl rfl)
        · exact goodZ _ _ _ _ _ _ ⟨by omega,by omega⟩
        all_goals exact goodZ _ _ _ _ _ _ (i64_c _ rfl rfl)
      have hd17:∀ o∈ops17 ei ek ei ei ek ei i k b4 b5 s2,o.data=nilS∨(∃ xs:List UInt8,Ar U8 o.data xs∈[Ar OPE p (ops17 ei ek ei ei ek ei i k b4 b5 s2),Ar U8 ⟨some ⟨b4,0,none⟩,1,1⟩ [1],Ar U8 ⟨some ⟨b5,0,none⟩,1,1⟩ [2],RowX s2,E16])∨RowX o.data∈[Ar OPE p (ops17 ei ek ei ei ek ei i k b4 b5 s2),Ar U8 ⟨some ⟨b4,0,none⟩,1,1⟩ [1],Ar U8 ⟨some ⟨b5,0,none⟩,1,1⟩ [2],RowX s2,E16]:=by
        intro o ho
        have m1:∀ {A C D E F:HP},C∈[A,C,D,E,F]:=List.mem_cons_of_mem _ (List.mem_cons_self ..)
        have m2:∀ {A C D E F:HP},D∈[A,C,D,E,F]:=List.mem_cons_of_mem _ (List.mem_cons_of_mem _ (List.mem_cons_self ..))
        have m3:∀ {A C D E F:HP},E∈[A,C,D,E,F]:=List.mem_cons_of_mem _ (List.mem_cons_of_mem _ (List.mem_cons_of_mem _ (List.mem_cons_self ..)))
        simp only [ops17,List.mem_cons,List.not_mem_nil,or_false] at ho
        rcases ho with rfl | rfl | rfl | rfl | rfl | rfl | rfl | rfl | rfl | rfl | rfl | rfl | rfl | rfl | rfl | rfl | rfl
        iterate 11 (first | exact .inl rfl)
        · exact .inr (.inl ⟨[1],m1⟩)
        · exact .inl rfl
        · exact .inr (.inr m3)
        · exact .inl rfl
        · exact .inr (.inl ⟨[2],m2⟩)
        · exact .inl rfl
      refine xruns 65536 (by decide) p _ (by simp [ops17]) hg17 (List.mem_cons_self ..) hd17 ?_
      refine xjoin (xiff rfl ?_)
      rw [wrap_id (9*(i:Int)) (by omega) (by omega),wrap_id (100+9*(i:Int)) (by omega) (by omega)]
      refine xruns (100+9*(i:Int)) (by omega) p _ (by simp [ops17]) hg17 (List.mem_cons_self ..) hd17 ?_
      refine xiff rfl ?_
      rw [wrapk k (by omega)]
      exact xuse [E16] (hK2 (10 - (k+1)) _ _ (by omega) ⟨k+1,rfl,rfl,by omega,rfl⟩)
  with_reducible refine xeq t_law16_IKn_3 ?_
  unfold law16_IKn_3
  refine xkeep (l:=[]) ?_
  refine xsample 5 ?_
  show Ent B [] (XCall Pr F_record_Put [(smp 5).v] (.tup [none,none]) [.slice,.int .i64] _)
  refine xcall0 (Put_rec (smp 5) (by decide)) rdb ?_
  rintro ⟨s,r,_⟩ _ ⟨_,rfl⟩
  refine app1 (ca2 (xsample 3 ?_))
  show Ent B _ (XCall Pr F_record_Put [(smp 3).v] (.tup [none,none]) [.slice,.int .i64] _)
  refine xcall0 (Put_rec (smp 3) (by decide)) rdb ?_
  rintro ⟨s1,r1,_⟩ _ ⟨_,rfl⟩
  refine app1 (ca2 (xnew fun b=>xnew fun b1=>?_))
  simp only
  refine xfold1 0 (Q:=Ar SL ⟨some ⟨b1,0,none⟩,4,4⟩ [s,s1,s,⟨some ⟨b,0,none⟩,1,1⟩]) (fun g hg=>⟨[],blk_ar _ 4 rfl rfl hg⟩) ?_
  refine xfold1 1 (Q:=Ar U8 ⟨some ⟨b,0,none⟩,1,1⟩ [7]) (fun g hg=>⟨[],blk_ar [7] 1 rfl rfl hg⟩) ?_
  have hrows:Rds B [Ar U8 ⟨some ⟨b,0,none⟩,1,1⟩ [7],Ar SL ⟨some ⟨b1,0,none⟩,4,4⟩ [s,s1,s,⟨some ⟨b,0,none⟩,1,1⟩],Ar U8 s1 (putE (smp 3)).1,Ar U8 s (putE (smp 5)).1]
      (RowsAt ⟨some ⟨b1,0,none⟩,4,4⟩ [s,s1,s,⟨some ⟨b,0,none⟩,1,1⟩] wps16):=by
    refine rds_of fun g hg hF hs hm=>?_
    obtain ⟨a1,c1,p1,⟨a2,c2,p2,⟨a3,c3,p3,⟨a4,c4,p4,_,_,t4,_⟩,_,t3,u3⟩,_,t2,u2⟩,_,t1,u1⟩:=hs
    refine ⟨p2.read.mono (t2.trans (u1.trans hm)),rfl,fun i r x hr hx=>?_⟩
    have q1:=p1.read.mono (t1.trans hm)
    have q3:=p3.read.mono (t3.trans (u2.trans (u1.trans hm)))
    have q4:=p4.read.mono (t4.trans (u3.trans (u2.trans (u1.trans hm))))
    rcases i with _ | _ | _ | _ | i
    · obtain rfl:=Option.some.inj hr;obtain rfl:=Option.some.inj hx;exact q4
    · obtain rfl:=Option.some.inj hr;obtain rfl:=Option.some.inj hx;exact q3
    · obtain rfl:=Option.some.inj hr;obtain rfl:=Option.some.inj hx;exact q4
    · obtain rfl:=Option.some.inj hr;obtain rfl:=Option.some.inj hx;exact q1
    · simp at hr
  refine xcall0 (laid_spec ⟨some ⟨b1,0,none⟩,4,4⟩ [s,s1,s,⟨some ⟨b,0,none⟩,1,1⟩] wps16 (by decide)) (rds_and hrows rdb) ?_
  rintro ⟨q,q1,q2,c,_⟩ _ ⟨hc,rfl⟩
  simp only at hc;subst hc
  refine app3 (ca4 ?_)
  simp only
  refine xfact 2 (P1:=IdxObj q2 q q1 (openX lm16)) (fun g hg=>idxAt hg) fun hib=>?_
  obtain ⟨ib,rfl⟩:=hib
  obtain ⟨hs1,hs2⟩:=save16
  refine xjoin (xiff rfl ?_)
  refine xcl (iSave_spec ib q q1 m16 lm16 (openX lm16) x16.1 x16.2) rdb ?_
  rintro ⟨t,_⟩ _ ⟨ht,rfl⟩
  simp only [hs1] at ht;subst ht
  refine app3 (ca1 (xiff rfl ?_))
  refine xcl (Read_spec q (saveM m16 lm16.lo (openX lm16)).1 idxN) rdb ?_
  rintro ⟨s23,e,_⟩ _ ⟨_,rfl⟩
  refine app2 (ca2 ?_)
  refine xlen (E:=U8) (xs:=(readM (saveM m16 lm16.lo (openX lm16)).1 idxN).1) s23 fun hsn _=>?_
  rw [hs2] at hsn
  refine xjoin (xift (by simp [←hsn]) ?_)
  refine xcall0 works16_spec rdb ?_
  rintro ⟨c,_⟩ _ ⟨hc,rfl⟩
  simp only at hc;subst hc
  exact app0 (ca1 (xkeep (l:=[]) (xret ⟨rfl,rfl⟩)))
end Go.Cx
namespace Go.Cx
open Go Go.Cf Go.RowKit Go.ChangeShapes Go.WideShapes Go.Deep
set_option linter.unusedVariables false
set_option maxRecDepth 100000
theorem tabType:(Pr.globals[1]?).map (·.type)=some 219:=by kernel_rfl
theorem cU:Pr.cellsOf 74=1:=by kernel_rfl
theorem cA:Pr.cellsOf 219=20:=by kernel_rfl
theorem GTab_of {W:World}(h:Lib.TabIs Pr W "internal/strconv.uint64pow10" .u64 Lib.pow10Tab):GTab (mem W):=by
  unfold Lib.TabIs World.var? at h
  rw [globTab] at h
  simp only [Option.bind_some] at h
  show ∃ e fr,W.heap[_]? = some _
  split at h
  · rename_i cs e fr hh
    obtain rfl:=Option.some.inj h
    exact ⟨e,fr,hh⟩
  · cases h
theorem GTab_of_laid {W:World}{a b:String×DataW Unit}{rest:List (String×DataW Unit)}(h:laidMet Pr (a::b::("internal/strconv.uint64pow10",Lib.tabData .u64 Lib.pow10Tab)::rest) W):GTab (mem W):=by
  obtain ⟨ps,hv,_⟩:=h
  obtain ⟨n1,d1⟩:=a
  obtain ⟨n2,d2⟩:=b
  obtain ⟨g1,t1,cs1,fu1,p1,q1,hg1,ht1,hvar1,hd1,hv2,_⟩:=hv
  obtain ⟨g2,t2,cs2,fu2,p2,q2,hg2,ht2,hvar2,hd2,hv3,_⟩:=hv2
  obtain ⟨g3,t3,cs3,fu3,p3,q3,hg3,ht3,hvar3,hd3,_,_⟩:=hv3
  obtain rfl:=Option.some.inj (globTab.symm.trans hg3)
  obtain rfl:=Option.some.inj (tabType.symm.trans ht3)
  refine GTab_of ?_
  unfold Lib.TabIs
  rw [hvar3]
  have:=Lib.cells_of_tab (by kernel_rfl:Pr.underlying 219=some (.array 20 74)) (by kernel_rfl:Pr.underlying 74=some (.int .u64)) cU cA hd3
  rw [←this]
theorem behNamed:Pr.globalNamed "outstation/index.behind" = some 0:=by kernel_rfl
theorem behType:(Pr.globals[0]?).map (·.type)=some 33:=by kernel_rfl
theorem behFields:fieldsOf Pr 33=some [(0,3),(1,3)]:=by kernel_rfl
theorem GBeh_of_laid {W:World}{a b c d:String×DataW Unit}{rest:List (String×DataW Unit)}(h:laidMet Pr (a::b::c::d::("outstation/index.behind",.agg [.lit (.int .i64 1099511627777),.lit (.int .i64 0)])::rest) W):GBeh (mem W):=by
  obtain ⟨ps,hv,_⟩:=h
  obtain ⟨n1,d1⟩:=a
  obtain ⟨n2,d2⟩:=b
  obtain ⟨n3,d3⟩:=c
  obtain ⟨n4,d4⟩:=d
  obtain ⟨g1,t1,cs1,fu1,p1,q1,hg1,ht1,hvar1,hd1,hv,_⟩:=hv
  obtain ⟨g2,t2,cs2,fu2,p2,q2,hg2,ht2,hvar2,hd2,hv,_⟩:=hv
  obtain ⟨g3,t3,cs3,fu3,p3,q3,hg3,ht3,hvar3,hd3,hv,_⟩:=hv
  obtain ⟨g4,t4,cs4,fu4,p4,q4,hg4,ht4,hvar4,hd4,hv,_⟩:=hv
  obtain ⟨g5,t5,cs5,fu5,p5,q5,hg5,ht5,hvar5,hd5,_,_⟩:=hv
  obtain rfl:=Option.some.inj (behNamed.symm.trans hg5)
  obtain rfl:=Option.some.inj (behType.symm.trans ht5)
  have hc:=cells_of_pair behFields (by kernel_rfl:Pr.underlying 3=some (.int .i64)) (by kernel_rfl:Pr.cellsOf 3=1) (by kernel_rfl:Pr.cellsOf 33=2) hd5
  unfold World.var? at hvar5
  rw [behNamed] at hvar5
  simp only [Option.bind_some] at hvar5
  show ∃ e fr,W.heap[_]? = some _
  split at hvar5
  · rename_i cs e fr hh
    obtain rfl:=Option.some.inj hvar5
    refine ⟨e,fr,?_⟩
    rw [hh]
    congr 2
    exact Array.toList_inj.1 hc
  · cases hvar5
end Go.Cx
