/-
  The law of an index: what it calls.
  The law of an index.
  The pair of a log and an index, the program's and the document's: opened, called.
  The pair: opened.
  The pair: called.
  The pair: any call.
  The law of the pair, for any row of calls.
-/
import Derived.Test.YtlcnhajfgilipaaGreatDoorR1
import Derived.Test.YtlcnhajfgilipaaGreatDoorNY
import Derived.Test.YtlcnhajfgilipaaGreatDoorT1
namespace Go.Cx
open Go Go.Cf
set_option linter.unusedVariables false
set_option maxRecDepth 100000
variable {B:Base}{As F:List HP}
theorem SameInts_spec (a b:Sl) (xs ys:List Int) (hm:xs.length≤140737488355328) :
    Ct Pr F_kit_SameInts [a.v,b.v] .one [.bool] [] ((RAr I64 a xs).and (RAr I64 b ys)) (fun t Bs=>t.1=decide (xs=ys)∧Bs=[]):=by
  refine spec1 c_kit_SameInts fun B hr=>?_
  have fa:Fro B a I64 xs:=⟨hr.1⟩
  have fb:Fro B b I64 ys:=⟨hr.2⟩
  have ha:=hr.1.1
  have hb:=hr.2.1
  unfold kit_SameInts
  refine xif (fun h=>?_) (fun h=>?_)
  · refine xret ⟨?_,rfl⟩
    have:xs≠ys:=fun e=>by subst e;simp [←ha,←hb] at h
    simp [this]
  · have hl:xs.length=ys.length:=by simp at h;omega
    refine xloop1 (fun n i As=>∃ k:Nat,i=(k:Int)∧n=xs.length - k∧k≤xs.length∧xs.take k=ys.take k∧As=[]) xs.length ⟨0,rfl,rfl,by omega,rfl,rfl⟩ ?_
    rintro n _ _ K ⟨k,rfl,rfl,hk,he,rfl⟩ hK
    refine xif_dec (fun h=>?_) (fun h=>?_)
    · refine xdraw (xidxn rfl (by omega) fun x hx=>xgetE hx rfl rfl (xidxn rfl (by omega) fun y hy=>xgetE hy rfl rfl ?_))
      refine xif (fun h=>?_) (fun h=>?_)
      · refine xret ⟨?_,rfl⟩
        have:xs≠ys:=fun e=>by subst e;rw [hx] at hy;simp at hy h;exact h hy
        simp [this]
      · rw [wrap_succ k (by omega)]
        refine hK (xs.length - (k+1)) _ _ (by omega) ⟨k+1,rfl,rfl,by omega,?_,rfl⟩
        rw [List.take_add_one,List.take_add_one,he,hx,hy]
        simp at h
        rw [h]
    · have:k=xs.length:=by omega
      subst this
      rw [List.take_of_length_le (Nat.le_refl _),List.take_of_length_le (by omega)] at he
      exact xret ⟨by simp [he],rfl⟩
theorem sample_spec (t:Int):Ct Pr F_law16_sample [.int .i64 t] .agg [.int .i64,.int .i64,.str,.int .i64,.int .i64] [] emp (fun r Bs=>r=(1,t,aB,1,0,())∧Bs=[]):=by
  refine spec_gen (ss:=[.int .i64,.int .i64,.str,.int .i64,.int .i64]) c_law16_sample fun B _=>?_
  show Ent B [] (law16_sample t fun a b c d e=>Ret B (ss:=[.int .i64,.int .i64,.str,.int .i64,.int .i64]) (fun r Bs=>r=(1,t,aB,1,0,())∧Bs=[]) (a,b,c,d,e,()))
  unfold law16_sample
  refine xnew fun b=>?_
  iterate 5 (refine xset (h:=?_))
  iterate 5 (refine xget (h:=?_))
  exact xkeep (l:=[]) (xret ⟨rfl,rfl⟩)
theorem laid_spec (p:Sl) (rs:List Sl) (ps:List (List UInt8)) (hps:ps.length≤1000):Ct Pr F_law16_laid [p.v] (.tup [none,none,none,none]) [.ptr,.ptr,.ptr,.bool] [] ((RowsAt p rs ps).and GTab)
    (fun t Bs=>t.2.2.2.1=true∧Bs=[DevObj t.1 (dropM (fill0 ps).1 idxNew).1,LogObj t.2.1 t.1 (fill0 ps).2,IdxObj t.2.2.1 t.1 t.2.1 (openX (fill0 ps).2)]):=by
  refine spec4 c_law16_laid fun B hr=>?_
  obtain ⟨⟨ha,hl,hrow⟩,hg⟩:=hr
  haveI:Fro B p SL rs:=⟨ha⟩
  haveI:FroP B GTab:=⟨hg,fun _ _ h s=>GTab.mono _ _ h s⟩
  have h1:=ha.1
  unfold law16_laid
  refine xcall0 (New_spec 1048576) rdb ?_
  rintro ⟨q,r,_⟩ _ (⟨h,_⟩ | ⟨_,_,h1,⟨b,h2⟩,rfl⟩)
  · omega
  simp only at h1 h2;subst h1 h2
  refine app1 (ca2 ?_)
  refine xcl (sOpen_spec (some ⟨b,0,none⟩) k20) rdb ?_
  have he:=open_empty k20_inv rfl rfl
  rintro ⟨q1,r1,_⟩ _ (⟨l,b1,e1,e2,e3,e4,rfl⟩ | ⟨e1,_⟩)
  rotate_left
  · rw [he] at e1;cases e1
  simp only at e3 e4;subst e3 e4
  rw [he] at e1
  obtain rfl:=Option.some.inj e1
  rw [he]
  refine app2 (ca2 (xjoin (xiff rfl (xiff rfl ?_))))
  refine xloop1 (fun n (x:Int) As'=>∃ k:Nat,x=(k:Int)∧n=rs.length - k∧k≤rs.length∧As'=[LogObj (some ⟨b1,0,none⟩) (some ⟨b,0,none⟩) (fill0 (ps.take k)).2,DevObj (some ⟨b,0,none⟩) (fill0 (ps.take k)).1]) rs.length ⟨0,rfl,rfl,by omega,rfl⟩ ?_
  rintro n x As' K ⟨k,rfl,rfl,hk,rfl⟩ hK
  have htl:(ps.take k).length≤ps.length:=by simp;omega
  obtain ⟨gs,safe,f1,f2,f3,f4,f5⟩:=fill_rel (ps.take k) (by omega)
  refine xif_dec (fun h=>?_) (fun h=>?_)
  · have hlt:k<rs.length:=by omega
    obtain ⟨y,hy⟩:∃ y,ps[k]? = some y:=⟨_,List.getElem?_eq_getElem (by omega)⟩
    refine xidxn (E:=SL) (xs:=rs) (s:=p) (h1:=hlt) (h:=fun r hr=>?_)
    haveI:Fro B r U8 y:=⟨hrow k r y hr hy⟩
    refine xgetE (E:=SL) (xs:=rs) hr (h:=?_)
    obtain ⟨gs1,safe1,s1,s2,_⟩:=f2.step y (by omega)
    have hgl:=fill_rel (ps.take (k+1)) (by simp;omega)
    have etake:ps.take (k+1)=ps.take k++[y]:=by rw [List.take_add_one,hy];rfl
    have e6:fill0 (ps.take (k+1))=((appendL (fill0 (ps.take k)).1 (fill0 (ps.take k)).2 y).1,(appendL (fill0 (ps.take k)).1 (fill0 (ps.take k)).2 y).2.1):=by rw [etake];exact fill_snoc _ _ _
    obtain ⟨gs2,safe2,g1,g2,g3,_⟩:=hgl
    have htl2:(ps.take (k+1)).length≤ps.length:=by simp;omega
    refine xcl (sAppend_spec (some ⟨b1,0,none⟩) (some ⟨b,0,none⟩) (fill0 (ps.take k)).1 (fill0 (ps.take k)).2 r y (by rw [f1];exact f2.calm) ?_) (rds_and rdb rdb) ?_
    · have:(appendL (fill0 (ps.take k)).1 (fill0 (ps.take k)).2 y).2.1=(fill0 (ps.take (k+1))).2:=by rw [e6]
      rw [this,g1]
      exact g2.linv (by omega)
    rintro ⟨t,t1,_⟩ _ ⟨_,_,rfl⟩
    refine app2 (ca2 ?_)
    rw [wrap_succ k (by omega)]
    refine hK _ _ _ (by omega) ⟨k+1,rfl,rfl,by omega,?_⟩
    rw [e6]
  · have hk:k=ps.length:=by omega
    have e:ps.take k=ps:=List.take_of_length_le (by omega)
    rw [e] at f1 f2 f3 f4 f5 ⊢
    refine xcl (iOpen_spec (some ⟨b,0,none⟩) (some ⟨b1,0,none⟩) (fill0 ps).1 (fill0 ps).2) rdb ?_
    have hdr:=drop_up (m:=(fill0 ps).1) idxNew f5 f4
    rintro ⟨q2,r4,_⟩ _ ⟨h3,_,h5⟩
    obtain ⟨h6,rfl⟩:=h5 hdr
    simp only at h3 h6
    rw [hdr] at h3
    subst h3
    refine app3 (ca2 (xjoin (xift rfl (xret ⟨?_,rfl⟩))))
    cases q2 with
    | none=>exact absurd rfl h6
    | some a=>rfl
end Go.Cx
namespace Go.Cx
open Go Go.Cf
set_option linter.unusedVariables false
set_option maxRecDepth 100000
variable {B:Base}{As F:List HP}
abbrev wps16:List (List UInt8):=[(putE (smp 5)).1,(putE (smp 3)).1,(putE (smp 5)).1,[7]]
theorem kn16:(openX (fill0 wps16).2).L=[(3,1),(5,0),(5,2)]:=by decide +kernel
theorem works16_spec:Ct Pr F_law16_works [] .one [.bool] [] GTab (fun t Bs=>t.1=true∧Bs=[]):=by
  refine spec1 c_law16_works fun B hr=>?_
  haveI:FroP B GTab:=⟨hr,fun _ _ h s=>GTab.mono _ _ h s⟩
  unfold law16_works
  refine xcall0 (sample_spec 5) rdb ?_
  rintro _ _ ⟨rfl,rfl⟩
  refine app0 ?_
  show Ent B [] (XCall Pr F_record_Put [(smp 5).v] (.tup [none,none]) [.slice,.int .i64] _)
  refine xcall0 (Put_rec (smp 5) (by decide)) rdb ?_
  rintro ⟨s,r,_⟩ _ ⟨_,rfl⟩
  refine app1 (ca2 ?_)
  refine xcall0 (sample_spec 3) rdb ?_
  rintro _ _ ⟨rfl,rfl⟩
  refine app0 ?_
  show Ent B _ (XCall Pr F_record_Put [(smp 3).v] (.tup [none,none]) [.slice,.int .i64] _)
  refine xcall0 (Put_rec (smp 3) (by decide)) rdb ?_
  rintro ⟨s1,r1,_⟩ _ ⟨_,rfl⟩
  refine app1 (ca2 (xnew fun b=>xnew fun b1=>?_))
  simp only
  refine xfold1 0 (Q:=Ar SL ⟨some ⟨b1,0,none⟩,4,4⟩ [s,s1,s,⟨some ⟨b,0,none⟩,1,1⟩]) (fun g hg=>⟨[],blk_ar _ 4 rfl rfl hg⟩) ?_
  refine xfold1 1 (Q:=Ar U8 ⟨some ⟨b,0,none⟩,1,1⟩ [7]) (fun g hg=>⟨[],blk_ar [7] 1 rfl rfl hg⟩) ?_
  have hrows:Rds B [Ar U8 ⟨some ⟨b,0,none⟩,1,1⟩ [7],Ar SL ⟨some ⟨b1,0,none⟩,4,4⟩ [s,s1,s,⟨some ⟨b,0,none⟩,1,1⟩],Ar U8 s1 (putE (smp 3)).1,Ar U8 s (putE (smp 5)).1]
      (RowsAt ⟨some ⟨b1,0,none⟩,4,4⟩ [s,s1,s,⟨some ⟨b,0,none⟩,1,1⟩] wps16):=by
    refine rds_of fun g hg hF hs hm=>?_
    obtain ⟨a1,c1,p1,⟨a2,c2,p2,⟨a3,c3,p3,⟨a4,c4,p4,_,_,t4,_⟩,_,t3,u3⟩,_,t2,u2⟩,_,t1,u1⟩:=hs
    refine ⟨p2.read.mono (t2.trans (u1.trans hm)),rfl,fun i r x hr hx=>?_⟩
    have q1:=p1.read.mono (t1.trans hm)
    have q3:=p3.read.mono (t3.trans (u2.trans (u1.trans hm)))
    have q4:=p4.read.mono (t4.trans (u3.trans (u2.trans (u1.trans hm))))
    rcases i with _ | _ | _ | _ | i
    · obtain rfl:=Option.some.inj hr;obtain rfl:=Option.some.inj hx;exact q4
    · obtain rfl:=Option.some.inj hr;obtain rfl:=Option.some.inj hx;exact q3
    · obtain rfl:=Option.some.inj hr;obtain rfl:=Option.some.inj hx;exact q4
    · obtain rfl:=Option.some.inj hr;obtain rfl:=Option.some.inj hx;exact q1
    · simp at hr
  refine xcall0 (laid_spec ⟨some ⟨b1,0,none⟩,4,4⟩ [s,s1,s,⟨some ⟨b,0,none⟩,1,1⟩] wps16 (by decide)) (rds_and hrows rdb) ?_
  rintro ⟨q,q1,q2,c,_⟩ _ ⟨hc,rfl⟩
  simp only at hc;subst hc
  have hL:=kn16
  have hlen:(openX (fill0 wps16).2).L.length=3:=by rw [hL];rfl
  refine app3 (ca4 ?_)
  simp only
  refine xuse [IdxObj q2 q q1 (openX (fill0 wps16).2)] ?_
  refine xjoin (xift rfl ?_)
  refine xcl (iLen_spec q2 q q1 (openX (fill0 wps16).2)) rdb ?_
  rintro ⟨t,_⟩ _ ⟨ht,rfl⟩
  simp only [hlen] at ht;subst ht
  refine app1 (ca1 (xjoin (xift rfl ?_)))
  refine xcl (iRange_spec q2 q q1 (openX (fill0 wps16).2) 0 9 0 (by rw [hlen];decide)) rdb ?_
  rintro ⟨s2,_⟩ _ rfl
  have e1:rngX (openX (fill0 wps16).2) 0 9 0=[1,0,2]:=by unfold rngX;rw [hL];decide
  rw [e1]
  refine app2 (ca1 (xnew fun b2=>?_))
  refine xfold1 0 (Q:=Ar I64 ⟨some ⟨b2,0,none⟩,3,3⟩ [1,0,2]) (fun g hg=>⟨[],blk_ar [1,0,2] 3 rfl rfl hg⟩) ?_
  refine xcl (pre:=[]) (SameInts_spec s2 ⟨some ⟨b2,0,none⟩,3,3⟩ [1,0,2] [1,0,2] (by decide)) (rds_and rdb rdb) ?_
  rintro ⟨c,_⟩ _ ⟨hc,rfl⟩
  obtain rfl:c=true:=by rw [show c=_ from hc];rfl
  refine app0 (ca1 (xjoin (xift rfl ?_)))
  refine xcl (iRange_spec q2 q q1 (openX (fill0 wps16).2) 5 6 1 (by rw [hlen];decide)) rdb ?_
  rintro ⟨s3,_⟩ _ rfl
  have e2:rngX (openX (fill0 wps16).2) 5 6 1=[2]:=by unfold rngX;rw [hL];decide
  rw [e2]
  refine app2 (ca1 (xnew fun b3=>?_))
  refine xfold1 0 (Q:=Ar I64 ⟨some ⟨b3,0,none⟩,1,1⟩ [2]) (fun g hg=>⟨[],blk_ar [2] 1 rfl rfl hg⟩) ?_
  refine xcl (pre:=[]) (SameInts_spec s3 ⟨some ⟨b3,0,none⟩,1,1⟩ [2] [2] (by decide)) (rds_and rdb rdb) ?_
  rintro ⟨c,_⟩ _ ⟨hc,rfl⟩
  obtain rfl:c=true:=by rw [show c=_ from hc];rfl
  exact app0 (ca1 (xkeep (l:=[]) (xret ⟨rfl,rfl⟩)))
end Go.Cx
namespace Go.Cx
open Go Go.Cf
set_option linter.unusedVariables false
set_option maxRecDepth 100000
variable {B:Base}{As F:List HP}{α:Type}
theorem CopyI_spec (s:Sl) (ws:List Int) (hb:ws.length≤1000000):Ct Pr F_kit_CopyInts [s.v] .one [.slice] [] (RAr I64 s ws) (fun t Bs=>Bs=[Ar I64 t.1 ws]):=by
  refine spec1 c_kit_CopyInts fun B hr=>?_
  haveI:Fro B s I64 ws:=⟨hr⟩
  have hn:=hr.1
  unfold kit_CopyInts
  refine xnone I64 ?_
  refine xloop2 (fun n (o:Sl) (i:Int) As'=>∃ k:Nat,i=(k:Int)∧n=ws.length - k∧k≤ws.length∧As'=[Ar I64 o (ws.take k)]) ws.length ⟨0,rfl,rfl,by omega,by simp⟩ ?_
  rintro n o _ _ K ⟨k,rfl,rfl,hk,rfl⟩ hK
  refine xif_dec (fun h=>?_) (fun h=>?_)
  · have hlt:k<ws.length:=by omega
    have hy:=List.getElem?_eq_getElem hlt
    refine xidxn (E:=I64) (xs:=ws) (s:=s) (h1:=hlt) (h:=fun _ _=>?_)
    refine xgetE (E:=I64) (xs:=ws) hy (h:=xnew fun b=>?_)
    refine xapp1 (E:=I64) ws[k] (hb:=by simp;omega) (h:=fun s'=>?_)
    rw [wrap_succ k (by omega)]
    refine hK (ws.length - (k+1)) _ _ _ (by omega) ⟨k+1,rfl,rfl,by omega,?_⟩
    rw [List.take_add_one,hy];rfl
  · rw [List.take_of_length_le (by omega)]
    exact xret rfl
theorem SpoilI_spec (s:Sl) (ws:List Int):Ct Pr F_kit_SpoilInts [s.v] (.tup []) [] [Ar I64 s ws] emp (fun _ Bs=>∃ ws':List Int,ws'.length=ws.length∧Bs=[Ar I64 s ws']):=by
  refine spec0 c_kit_SpoilInts fun B _=>?_
  unfold kit_SpoilInts
  refine xars 0 fun zs hn hc=>?_
  refine xslc0 rfl (by omega) (by omega) ?_
  rw [show ((s.c:Int)).toNat=s.c by omega]
  refine xshift s.c (ws++zs) [] (by simp) (by rw [List.length_append];exact hc) (xar ?_)
  refine xloop1 (fun n (i:Int) As'=>∃ (k:Nat) (us:List Int),i=(k:Int)∧n=s.c - k∧k≤s.c∧us.length=s.c∧As'=[Ar I64 ⟨s.p,s.c,s.c⟩ us]) s.c ⟨0,ws++zs,rfl,rfl,by omega,by rw [List.length_append];exact hc,rfl⟩ ?_
  rintro n _ _ K ⟨k,us,rfl,rfl,hk,hl,rfl⟩ hK
  refine xif_dec (fun h=>?_) (fun h=>?_)
  · have hlt:k<us.length:=by
      have h:(k:Int)<(s.c:Int):=h
      omega
    have hy:=List.getElem?_eq_getElem hlt
    refine xidxn (E:=I64) (xs:=us) (s:=⟨s.p,s.c,s.c⟩) (h1:=hlt) (h:=fun _ _=>?_)
    refine xgetE (E:=I64) (xs:=us) hy (h:=?_)
    refine xidxn (E:=I64) (xs:=us) (s:=⟨s.p,s.c,s.c⟩) (h1:=hlt) (h:=fun _ _=>?_)
    refine xsetE (E:=I64) (xs:=us) (bits .xor .i64 us[k] 77) hy (hv:=rfl) (h:=?_)
    have hM:s.c≤9223372036854775807→Ent B [Ar I64 ⟨s.p,s.c,s.c⟩ (us.set k (bits .xor .i64 us[k] 77))] (K (IntKind.i64.wrap ((k:Int)+1))):=fun hM=>by
      rw [wrap_succ k (by omega)]
      exact hK (s.c - (k+1)) _ _ (by omega) ⟨k+1,_,rfl,rfl,by omega,by simpa using hl,rfl⟩
    refine xfact 0 (P1:=Ar I64 ⟨s.p,s.c,s.c⟩ (us.set k (bits .xor .i64 us[k] 77))) (fun g hg=>?_) hM
    obtain ⟨z,hz⟩:=hg
    exact hz.cap_le
  · refine xars 0 fun zs2 h5 h6=>?_
    refine xshift s.n (us.take s.n) (us.drop s.n++zs2) (by rw [←List.append_assoc,List.take_append_drop]) (by rw [List.length_take];omega) (xar ?_)
    obtain ⟨p,n,c⟩:=s
    exact xret ⟨us.take n,by rw [List.length_take];simp only at hl hn hc;omega,rfl⟩
theorem ApartI2_spec (l s0 s1:Sl) (xs ys:List Int) (hx:xs.length≤1000000) (hy:ys.length≤1000000):Ct Pr F_kit_ApartInts [l.v] .one [.bool] [Ar I64 s0 xs,Ar I64 s1 ys] (RAr SL l [s0,s1]) (fun t Bs=>t.1=true):=by
  refine spec1 c_kit_ApartInts fun B hr=>?_
  haveI:Fro B l SL [s0,s1]:=⟨hr⟩
  have hn:(2:Nat)=l.n:=hr.1
  unfold kit_ApartInts
  refine xloop1 (fun n (i:Int) As'=>∃ (k:Nat) (xs' ys':List Int),i=(k:Int)∧n=2 - k∧k≤2∧xs'.length=xs.length∧ys'.length=ys.length∧As'=[Ar I64 s0 xs',Ar I64 s1 ys']) 2 ⟨0,xs,ys,rfl,rfl,by omega,rfl,rfl,rfl⟩ ?_
  rintro n _ _ K ⟨i,xs1,ys1,rfl,rfl,hi,e1,e2,rfl⟩ hK
  refine xif_dec (fun h=>?_) (fun h=>xkeep (l:=[]) (xret rfl))
  refine xloop1 (fun n (k:Int) As'=>∃ (k':Nat) (xs' ys':List Int),k=(k':Int)∧n=2 - k'∧k'≤2∧xs'.length=xs.length∧ys'.length=ys.length∧As'=[Ar I64 s0 xs',Ar I64 s1 ys']) 2 ⟨0,xs1,ys1,rfl,rfl,by omega,e1,e2,rfl⟩ ?_
  rintro n _ _ K2 ⟨k,xs2,ys2,rfl,rfl,hk,e3,e4,rfl⟩ hK2
  refine xif_dec (fun h2=>?_) (fun h2=>?_)
  rotate_left
  · rw [wrap_succ i (by omega)]
    exact hK (2 - (i+1)) _ _ (by omega) ⟨i+1,xs2,ys2,rfl,rfl,by omega,e3,e4,rfl⟩
  have hi2:i<2:=by omega
  have hk2:k<2:=by omega
  refine xjoin0 (fun As'=>∃ (xs' ys':List Int),xs'.length=xs.length∧ys'.length=ys.length∧As'=[Ar I64 s0 xs',Ar I64 s1 ys']) (fun K3 hK3=>?_) ?_
  · refine xif (fun h3=>hK3 _ ⟨xs2,ys2,e3,e4,rfl⟩) (fun h3=>?_)
    have hik:i≠k:=fun e=>by subst e;simp at h3
    have two:(i=0∧k=1)∨(i=1∧k=0):=by omega
    rcases two with ⟨rfl,rfl⟩ | ⟨rfl,rfl⟩
    · refine xidxn (E:=SL) (xs:=[s0,s1]) (s:=l) (k:=1) (h1:=by simp) (h:=fun _ _=>?_)
      refine xgetE (E:=SL) (xs:=[s0,s1]) (x:=s1) rfl (h:=?_)
      refine xcl (pre:=[]) (CopyI_spec s1 ys2 (by omega)) rdb ?_
      rintro ⟨c,_⟩ _ rfl
      refine app1 (ca1 ?_)
      refine xidxn (E:=SL) (xs:=[s0,s1]) (s:=l) (k:=0) (h1:=by simp) (h:=fun _ _=>?_)
      refine xgetE (E:=SL) (xs:=[s0,s1]) (x:=s0) rfl (h:=?_)
      refine xcl (SpoilI_spec s0 xs2) rdb ?_
      rintro _ _ ⟨xs3,e5,rfl⟩
      refine app1 (ca0 ?_)
      refine xidxn (E:=SL) (xs:=[s0,s1]) (s:=l) (k:=1) (h1:=by simp) (h:=fun _ _=>?_)
      refine xgetE (E:=SL) (xs:=[s0,s1]) (x:=s1) rfl (h:=?_)
      refine xcl (pre:=[]) (SameInts_spec c s1 ys2 ys2 (by omega)) (rds_and rdb rdb) ?_
      rintro ⟨x,_⟩ _ ⟨hx,rfl⟩
      obtain rfl:x=true:=by rw [show x=_ from hx];simp
      refine app0 (ca1 (xiff rfl ?_))
      exact xuse' (hK3 _ ⟨xs3,ys2,by omega,e4,rfl⟩)
    · refine xidxn (E:=SL) (xs:=[s0,s1]) (s:=l) (k:=0) (h1:=by simp) (h:=fun _ _=>?_)
      refine xgetE (E:=SL) (xs:=[s0,s1]) (x:=s0) rfl (h:=?_)
      refine xcl (pre:=[]) (CopyI_spec s0 xs2 (by omega)) rdb ?_
      rintro ⟨c,_⟩ _ rfl
      refine app1 (ca1 ?_)
      refine xidxn (E:=SL) (xs:=[s0,s1]) (s:=l) (k:=1) (h1:=by simp) (h:=fun _ _=>?_)
      refine xgetE (E:=SL) (xs:=[s0,s1]) (x:=s1) rfl (h:=?_)
      refine xcl (SpoilI_spec s1 ys2) rdb ?_
      rintro _ _ ⟨ys3,e5,rfl⟩
      refine app1 (ca0 ?_)
      refine xidxn (E:=SL) (xs:=[s0,s1]) (s:=l) (k:=0) (h1:=by simp) (h:=fun _ _=>?_)
      refine xgetE (E:=SL) (xs:=[s0,s1]) (x:=s0) rfl (h:=?_)
      refine xcl (pre:=[]) (SameInts_spec c s0 xs2 xs2 (by omega)) (rds_and rdb rdb) ?_
      rintro ⟨x,_⟩ _ ⟨hx,rfl⟩
      obtain rfl:x=true:=by rw [show x=_ from hx];simp
      refine app0 (ca1 (xiff rfl ?_))
      exact xuse' (hK3 _ ⟨xs2,ys3,e3,by omega,rfl⟩)
  · rintro _ ⟨xs3,ys3,e5,e6,rfl⟩
    rw [wrap_succ k (by omega)]
    exact hK2 (2 - (k+1)) _ _ (by omega) ⟨k+1,xs3,ys3,rfl,rfl,by omega,e5,e6,rfl⟩
end Go.Cx
namespace Go.Cx
open Go Go.Cf
set_option linter.unusedVariables false
set_option maxRecDepth 100000
variable {B:Base}{As F:List HP}{α:Type}
theorem readL_room:∀ (k:Nat) (m:DM) (n:Int) (l:LM),DInv m→DInv (readL k m n l).1∧(readL k m n l).1.room=m.room
  | 0,m,_,l,h=>⟨h,rfl⟩
  | k+1,m,n,l,h=>by
    have t:=mend_touch h n
    unfold readL
    split
    · exact ⟨h,rfl⟩
    split
    · exact ⟨t.inv,t.room⟩
    dsimp only
    split
    · exact ⟨t.inv,t.room⟩
    · obtain ⟨a,b⟩:=readL_room k (mendM m n).1 (n+1) { l with segs:=l.segs++[⟨n,l.next,(scanN (readM m (fN n)).1).2,(scanN (readM m (fN n)).1).1⟩] } t.inv
      exact ⟨a,b.trans t.room⟩
theorem openM_room {m:DM}(h:DInv m):(openM m).1.room=m.room:=by
  have t:=drop_touch h newN
  unfold openM
  split
  · exact t.room
  dsimp only
  split
  · exact t.room
  have hr:=readL_room 70 (dropM m newN).1 (headM (dropM m newN).1).1 ⟨(headM (dropM m newN).1).1,(headM (dropM m newN).1).2.1,[],0⟩ t.inv
  generalize readL 70 (dropM m newN).1 (headM (dropM m newN).1).1 ⟨(headM (dropM m newN).1).1,(headM (dropM m newN).1).2.1,[],0⟩=r at *
  split
  · exact hr.2.trans t.room
  have tw:=sweep_touch (l:=r.2.1) (r.1.fs.map (·.nm)) r.1 hr.1
  split<;>exact tw.room.trans (hr.2.trans t.room)
abbrev pairC (d x l r i k:Option Addr):List Value:=[.pointer d,.pointer x,.pointer l,.pointer r,.pointer i,.pointer k]
inductive PB (c pb:Nat) (d x:Option Addr):List HP→Prop
  | no (m:DM) (hI:DInv m) (hr:m.room≤65536):PB c pb d x [Blk pb (pairC d x none none none none),DevObj d m,RefDev x m]
  | lg (m:DM) (lm:LM) (l r:Addr) (h:Ldev m lm) (hr:m.room≤65536):PB c pb d x [Blk pb (pairC d x (some l) (some r) none none),DevObj d m,RefDev x m,LogObj (some l) d lm,RLogObj (some r) x lm]
  | ix (m:DM) (lm:LM) (l r:Addr) (ib kb:Nat) (X:XM) (h:Ldev m lm) (hr:m.room≤65536) (hX:XOk c X):PB c pb d x [Blk pb (pairC d x (some l) (some r) (some ⟨ib,0,none⟩) (some ⟨kb,0,none⟩)),DevObj d m,RefDev x m,LogObj (some l) d lm,RLogObj (some r) x lm,IdxObj (some ⟨ib,0,none⟩) d (some l) X,RIdxObj (some ⟨kb,0,none⟩) x (some r) X]
theorem drop_down {m:DM}{nm:ByteArray}(h:(dropM m nm).2=0):m.down=false:=by
  cases hd:m.down with
  | false=>rfl
  | true=>
    have hr:removeM m nm=(m,10):=by unfold removeM;exact on_down hd _ _
    have hdr:dropM m nm=(m,10):=by unfold dropM;rw [hr];rfl
    rw [hdr] at h;cases h
theorem idxAt {x d l:Option Addr}{X:XM}{g:Frag}(hg:IdxObj x d l X g):∃ b,x=some ⟨b,0,none⟩:=by
  obtain ⟨b,_,hx,_⟩:=hg
  exact ⟨b,hx⟩
theorem pOpen_spec (c pb:Nat) (d x i k:Option Addr) (l r:Addr) (m:DM) (lm:LM) (h:Ldev m lm) (hr:m.room≤65536):Ct Pr F_law16_pair_open [.pointer (some ⟨pb,0,none⟩)] .one [.bool]
    [Blk pb (pairC d x (some l) (some r) i k),DevObj d m,RefDev x m,LogObj (some l) d lm,RLogObj (some r) x lm] emp (fun t Bs=>t.1=true∧PB c pb d x Bs):=by
  refine spec1 c_law16_pair_open fun B _=>?_
  unfold law16_pair_open
  refine xnil (xset (h:=xnil (xset (h:=xnil (xget (h:=xiff rfl ?_))))))
  refine xdraw (xnil (xget (h:=xnil (xget (h:=?_)))))
  refine xcl (iOpen_spec d (some l) m lm) rdb ?_
  rintro ⟨q3,e,_⟩ Bs ⟨he,h1,h2⟩
  simp only at he;subst he
  have hg:=h.drop
  have hroom:(dropM m idxNew).1.room≤65536:=by rw [(drop_touch h.inv idxNew).room];exact hr
  by_cases h0:(dropM m idxNew).2=0
  · obtain ⟨hq,rfl⟩:=h2 h0
    simp only at hq
    have hd:=drop_down h0
    refine app3 (ca2 (xfact 2 (P1:=IdxObj q3 d (some l) (openX lm)) (fun g hg=>idxAt hg) fun hb=>?_))
    obtain ⟨ib,rfl⟩:=hb
    refine xdraw (xnil (xget (h:=xnil (xget (h:=?_)))))
    refine xcl (rOpen16g_spec x (some r) m lm (fun hd=>by have:=h.few hd;omega)) rdb ?_
    rintro ⟨q6,e,_⟩ Bs ⟨he,h3,h4⟩
    simp only at he;subst he
    obtain ⟨kb,hk,rfl⟩:=h4 h0
    simp only at hk;subst hk
    refine app3 (ca2 (xnil (xset (h:=xnil (xset (h:=?_))))))
    refine xjoin (xift (by simp) ?_)
    rw [h0]
    exact xuse [Blk pb (pairC d x (some l) (some r) (some ⟨ib,0,none⟩) (some ⟨kb,0,none⟩)),DevObj d (dropM m idxNew).1,RefDev x (dropM m idxNew).1,LogObj (some l) d lm,RLogObj (some r) x lm,IdxObj (some ⟨ib,0,none⟩) d (some l) (openX lm),RIdxObj (some ⟨kb,0,none⟩) x (some r) (openX lm)]
      (xret ⟨rfl,.ix _ _ _ _ _ _ _ hg hroom ((openX_ok h hd hr).mono (Nat.zero_le c))⟩)
  · obtain ⟨hq,rfl⟩:=h1 h0
    simp only at hq;subst hq
    refine app2 (ca2 (xdraw (xnil (xget (h:=xnil (xget (h:=?_)))))))
    refine xcl (rOpen16g_spec x (some r) m lm (fun hd=>by have:=h.few hd;omega)) rdb ?_
    rintro ⟨q6,e,_⟩ Bs ⟨he,h3,h4⟩
    simp only at he;subst he
    obtain ⟨hk,rfl⟩:=h3 h0
    simp only at hk;subst hk
    refine app2 (ca2 (xnil (xset (h:=xnil (xset (h:=?_))))))
    refine xjoin (xift (by simp) ?_)
    refine xuse [Blk pb (pairC d x (some l) (some r) none none),DevObj d (dropM m idxNew).1,RefDev x (dropM m idxNew).1,LogObj (some l) d lm,RLogObj (some r) x lm] (xret ⟨?_,.lg _ _ _ _ hg hroom⟩)
    simp [noneB,h0]
theorem pOpen0_spec (c pb:Nat) (d x r i k:Option Addr) (m:DM) (hI:DInv m) (hr:m.room≤65536):Ct Pr F_law16_pair_open [.pointer (some ⟨pb,0,none⟩)] .one [.bool]
    [Blk pb (pairC d x none none i k),DevObj d m,RefDev x m] emp (fun t Bs=>t.1=true∧PB c pb d x Bs):=by
  refine spec1 c_law16_pair_open fun B _=>?_
  unfold law16_pair_open
  refine xnil (xset (h:=xnil (xset (h:=xnil (xget (h:=xift rfl ?_))))))
  exact xuse [Blk pb (pairC d x none none none none),DevObj d m,RefDev x m] (xret ⟨rfl,.no m hI hr⟩)
theorem pLogs_spec (c pb:Nat) (d x l r i k:Option Addr) (m:DM) (hI:DInv m) (hr:m.room≤65536):Ct Pr F_law16_pair_logs [.pointer (some ⟨pb,0,none⟩)] .one [.bool]
    [Blk pb (pairC d x l r i k),DevObj d m,RefDev x m] GTab (fun t Bs=>t.1=true∧PB c pb d x Bs):=by
  refine spec1 c_law16_pair_logs fun B hg=>?_
  haveI:FroP B GTab:=⟨hg,fun _ _ h s=>GTab.mono _ _ h s⟩
  unfold law16_pair_logs
  have hroom:=openM_room hI
  refine xnil (xget (h:=?_))
  refine xcl (sOpen_spec d m) rdb ?_
  rintro ⟨q1,e,_⟩ Bs hp
  rcases hp with ⟨lm,lb,h1,h2,h3,h4,rfl⟩ | ⟨h1,h2,h3,h4,rfl⟩
  · simp only at h3 h4;subst h3 h4
    refine app2 (ca2 (xnil (xget (h:=?_))))
    refine xcl (rOpen14_spec x m) rdb ?_
    rintro ⟨q3,e,_⟩ Bs hp
    rcases hp with ⟨lm2,rb,h5,h6,h7,h8,rfl⟩ | ⟨h5,h6,h7,h8,rfl⟩
    · rw [h1] at h5
      obtain rfl:=Option.some.inj h5
      simp only at h7 h8;subst h7 h8
      obtain ⟨g1,g2,g3,g4⟩:=open_ldev hI h1
      refine app2 (ca2 (xnil (xset (h:=xnil (xset (h:=?_))))))
      refine xjoin (xift (by simp) ?_)
      refine xjoin (xift (by simp [noneB]) ?_)
      refine xcl (pOpen_spec c pb d x i k ⟨lb,0,none⟩ ⟨rb,0,none⟩ (openM m).1 lm g1 (by rw [g2];exact hr)) rdb ?_
      rintro ⟨t,_⟩ Bs ⟨ht,hB⟩
      simp only at ht;subst ht
      cases hB with
      | no m2 hI2 hr2=>exact app3 (ca1 (xuse' (xret ⟨rfl,.no m2 hI2 hr2⟩)))
      | lg m2 lm2 l2 r2 h2' hr2=>exact app5 (ca1 (xuse' (xret ⟨rfl,.lg m2 lm2 l2 r2 h2' hr2⟩)))
      | ix m2 lm2 l2 r2 ib kb X h2' hr2 hX=>exact app7 (ca1 (xuse' (xret ⟨rfl,.ix m2 lm2 l2 r2 ib kb X h2' hr2 hX⟩)))
    · rw [h1] at h5;cases h5
  · simp only at h3 h4;subst h3 h4
    refine app1 (ca2 (xnil (xget (h:=?_))))
    refine xcl (rOpen14_spec x m) rdb ?_
    rintro ⟨q3,e,_⟩ Bs hp
    rcases hp with ⟨lm2,rb,h5,h6,h7,h8,rfl⟩ | ⟨h5,h6,h7,h8,rfl⟩
    · rw [h1] at h5;cases h5
    · simp only at h7 h8;subst h7 h8
      refine app1 (ca2 (xnil (xset (h:=xnil (xset (h:=?_))))))
      refine xjoin (xift (by simp) ?_)
      refine xjoin (xift (by simp [noneB,h2]) ?_)
      refine xfact 0 (P1:=RefDev x (openM m).1) (fun g hg=>hg.1) fun hI2=>?_
      refine xcl (pOpen0_spec c pb d x none i k (openM m).1 hI2 (by rw [hroom];exact hr)) rdb ?_
      rintro ⟨t,_⟩ Bs ⟨ht,hB⟩
      simp only at ht;subst ht
      cases hB with
      | no m2 hI2 hr2=>exact app3 (ca1 (xuse' (xret ⟨rfl,.no m2 hI2 hr2⟩)))
      | lg m2 lm2 l2 r2 h2' hr2=>exact app5 (ca1 (xuse' (xret ⟨rfl,.lg m2 lm2 l2 r2 h2' hr2⟩)))
      | ix m2 lm2 l2 r2 ib kb X h2' hr2 hX=>exact app7 (ca1 (xuse' (xret ⟨rfl,.ix m2 lm2 l2 r2 ib kb X h2' hr2 hX⟩)))
theorem xskip:∀ (Bs:List HP) {G:List HP}{φ:WP},Ent B G φ→Ent B (Bs++G) φ
  | [],_,_,h=>h
  | _::Bs,_,_,h=>fun w hw=>xskip Bs h w (show Sx B (_::(Bs++_)) w from hw).tail
theorem pAsked_spec (pb:Nat) (d x l r:Option Addr) (ib kb:Nat) (X:XM) (a b floor:Int) (hL:X.L.length≤1000000):Ct Pr F_law16_pair_asked [.pointer (some ⟨pb,0,none⟩),.int .i64 a,.int .i64 b,.int .i64 floor] .one [.bool]
    [Blk pb (pairC d x l r (some ⟨ib,0,none⟩) (some ⟨kb,0,none⟩)),IdxObj (some ⟨ib,0,none⟩) d l X,RIdxObj (some ⟨kb,0,none⟩) x r X] emp
    (fun t Bs=>t.1=true∧Bs=[Blk pb (pairC d x l r (some ⟨ib,0,none⟩) (some ⟨kb,0,none⟩)),IdxObj (some ⟨ib,0,none⟩) d l X,RIdxObj (some ⟨kb,0,none⟩) x r X]):=by
  refine spec1 c_law16_pair_asked fun B _=>?_
  unfold law16_pair_asked
  have hlen:(rngX X a b floor).length≤1000000:=by
    unfold rngX selK rngK
    rw [List.length_map]
    exact Nat.le_trans (List.length_filter_le _ _) (Nat.le_trans (List.length_filter_le _ _) hL)
  refine xnil (xget (h:=?_))
  refine xcl (iRange_spec (some ⟨ib,0,none⟩) d l X a b floor (by omega)) rdb ?_
  rintro ⟨s,_⟩ _ rfl
  refine app2 (ca1 (xnil (xget (h:=?_))))
  refine xcl (iRange_spec (some ⟨ib,0,none⟩) d l X a b floor (by omega)) rdb ?_
  rintro ⟨s1,_⟩ _ rfl
  refine app2 (ca1 (xnil (xget (h:=?_))))
  refine xcl (rRange_spec (some ⟨kb,0,none⟩) x r X a b floor) rdb ?_
  rintro ⟨s2,_⟩ _ rfl
  refine app2 (ca1 ?_)
  generalize rngX X a b floor=R at *
  refine xcl (pre:=[]) (SameInts_spec s s2 R R (by omega)) (rds_and rdb rdb) ?_
  rintro ⟨t,_⟩ _ ⟨ht,rfl⟩
  obtain rfl:t=true:=by rw [show t=_ from ht];simp
  refine app0 (ca1 (xjoin (xift rfl ?_)))
  refine xcl (pre:=[]) (SameInts_spec s1 s2 R R (by omega)) (rds_and rdb rdb) ?_
  rintro ⟨t,_⟩ _ ⟨ht,rfl⟩
  obtain rfl:t=true:=by rw [show t=_ from ht];simp
  refine app0 (ca1 (xjoin (xift rfl ?_)))
  refine xnew fun b2=>?_
  refine xfold1 (Q:=Ar SL ⟨some ⟨b2,0,none⟩,2,2⟩ [s,s1]) 0 (fun g hg=>⟨[],blk_ar [s,s1] 2 rfl rfl hg⟩) ?_
  refine xcl (ApartI2_spec ⟨some ⟨b2,0,none⟩,2,2⟩ s s1 R R hlen hlen) rdb ?_
  rintro ⟨t,_⟩ Bs ht
  simp only at ht;subst ht
  refine xskip Bs (ca1 ?_)
  exact xuse [Blk pb (pairC d x l r (some ⟨ib,0,none⟩) (some ⟨kb,0,none⟩)),IdxObj (some ⟨ib,0,none⟩) d l X,RIdxObj (some ⟨kb,0,none⟩) x r X] (xret ⟨rfl,rfl⟩)
end Go.Cx
namespace Go.Cx
open Go Go.Cf
set_option linter.unusedVariables false
set_option maxRecDepth 100000
variable {B:Base}{As F:List HP}{α:Type}
structure OP16 where
  kind:Int
  n:Int
  k:Int
  f:Int
  r:RE
  name:ByteArray
  data:Sl
abbrev OP16.cells (o:OP16):List Value:=[.int .i64 o.kind,.int .i64 o.n,.int .i64 o.k,.int .i64 o.f,.int .i64 o.r.kind,.int .i64 o.r.time,.string o.r.tag,.int .i64 o.r.val,.int .i64 o.r.id,.string o.name,o.data.v]
abbrev OP16.v (o:OP16):Value:=.agg #[.int .i64 o.kind,.int .i64 o.n,.int .i64 o.k,.int .i64 o.f,.int .i64 o.r.kind,.int .i64 o.r.time,.string o.r.tag,.int .i64 o.r.val,.int .i64 o.r.id,.string o.name,o.data.v]
theorem i64_one:i64 1:=⟨by decide,by decide⟩
theorem pLog_spec (c pb:Nat) (hc:c≤1000) (d x:Option Addr) (l r:Addr) (ib kb:Nat) (m:DM) (lm:LM) (X:XM) (h:Ldev m lm) (hr:m.room≤65536) (hX:XOk c X) (o:OP16) (bs:List UInt8) (ht:o.r.tag.size≤4096) :
    Ct Pr F_law16_pair_log [.pointer (some ⟨pb,0,none⟩),o.v] .one [.bool]
    [Blk pb (pairC d x (some l) (some r) (some ⟨ib,0,none⟩) (some ⟨kb,0,none⟩)),DevObj d m,RefDev x m,LogObj (some l) d lm,RLogObj (some r) x lm,IdxObj (some ⟨ib,0,none⟩) d (some l) X,RIdxObj (some ⟨kb,0,none⟩) x (some r) X]
    ((RAr U8 o.data bs).and GTab) (fun t Bs=>t.1=true∧PB (c+1) pb d x Bs):=by
  refine spec1 c_law16_pair_log fun B hg=>?_
  haveI:FroP B GTab:=⟨hg.2,fun _ _ h s=>GTab.mono _ _ h s⟩
  haveI:Fro B o.data U8 bs:=⟨hg.1⟩
  unfold law16_pair_log
  have hXl:=hX.len
  have fin:∀ {As:List HP}{G:List HP}(m':DM) (lm':LM) (X':XM),Ldev m' lm'→m'.room≤65536→XOk (c+1) X'→∀ [Split [Blk pb (pairC d x (some l) (some r) (some ⟨ib,0,none⟩) (some ⟨kb,0,none⟩)),DevObj d m',RefDev x m',LogObj (some l) d lm',RLogObj (some r) x lm',IdxObj (some ⟨ib,0,none⟩) d (some l) X',RIdxObj (some ⟨kb,0,none⟩) x (some r) X'] As G],
      Ent B As (Ret B (ss:=[.bool]) (fun t Bs=>t.1=true∧PB (c+1) pb d x Bs) (true,())):=fun m' lm' X' h1 h2 h3=>by
    exact xuse _ (xret ⟨rfl,.ix m' lm' l r ib kb X' h1 h2 h3⟩)
  refine xnew fun b=>xget (h:=?_)
  refine xif (fun hk=>?_) (fun hk=>?_)
  · -- a record
    iterate 5 (refine xget (h:=?_))
    refine xcl (rPut11_spec o.r ht) rdb ?_
    rintro ⟨s,e,_⟩ _ ⟨he,ps,hps,rfl⟩
    simp only at he;subst he
    refine app1 (ca2 (xif (fun he=>?_) (fun he=>?_)))
    · exact fin m lm X h hr (hX.mono (by omega))
    refine xnil (xget (h:=?_))
    refine xcl (sAppend_spec (some l) d m lm s ps h.safe (h.append ps).log) (rds_and rdb rdb) ?_
    rintro ⟨n1,e1,_⟩ _ ⟨hn1,he1,rfl⟩
    simp only at hn1 he1;subst hn1 he1
    refine app2 (ca2 (xnil (xget (h:=?_))))
    refine xcl (rAppend14c_spec (some r) x m lm s ps h.safe h.cur h.sync.2.1 (h.append ps).log) rdb ?_
    rintro ⟨n1,e1,_⟩ _ ⟨hn1,he1,rfl⟩
    simp only at hn1 he1;subst hn1 he1
    have h':=h.append ps
    have hr':(appendL m lm ps).1.room≤65536:=by rw [append_room h];exact hr
    generalize appendL m lm ps=y at *
    obtain ⟨m',lm',n,e⟩:=y
    simp only at h' hr'
    refine app2 (ca2 (xdraw (xjoin (xift (by simp) (xift (by simp) (xif (fun he2=>?_) (fun he2=>?_)))))))
    · exact fin m' lm' X h' hr' (hX.mono (by omega))
    · refine xnil (xget (h:=xget (h:=xnil (xget (h:=xget (h:=?_))))))
      refine xcl (iAddc_spec (some ⟨ib,0,none⟩) d (some l) X (o.r.time,n) (by omega)) rdb ?_
      rintro ⟨r5,_⟩ _ ⟨h5,rfl⟩
      simp only at h5;subst h5
      refine app1 (ca1 (xchk (h:=xchk (h:=?_))))
      refine xcl (rAdd16c_spec (some ⟨kb,0,none⟩) x (some r) X (o.r.time,n) (by omega)) rdb ?_
      rintro ⟨r6,_⟩ _ ⟨h6,rfl⟩
      simp only at h6;subst h6
      refine app1 (ca1 ?_)
      simp only [beq_self_eq_true]
      exact fin m' lm' (addX X (o.r.time,n)) h' hr' (hX.add hc _)
  refine xif (fun hk=>?_) (fun hk=>?_)
  · -- raw bytes
    refine xdraw (xnil (xget (h:=xget (h:=?_))))
    refine xcl (sAppend_spec (some l) d m lm o.data bs h.safe (h.append bs).log) (rds_and rdb rdb) ?_
    rintro ⟨n1,e1,_⟩ _ ⟨hn1,he1,rfl⟩
    simp only at hn1 he1;subst hn1 he1
    refine app2 (ca2 (xdraw (xnil (xget (h:=xget (h:=?_))))))
    refine xcl (rAppend14c_spec (some r) x m lm o.data bs h.safe h.cur h.sync.2.1 (h.append bs).log) rdb ?_
    rintro ⟨n1,e1,_⟩ _ ⟨hn1,he1,rfl⟩
    simp only at hn1 he1;subst hn1 he1
    have h':=h.append bs
    have hr':(appendL m lm bs).1.room≤65536:=by rw [append_room h];exact hr
    refine app2 (ca2 ?_)
    simp only [beq_self_eq_true,Bool.and_self]
    exact fin _ _ X h' hr' (hX.mono (by omega))
  refine xif (fun hk=>?_) (fun hk=>?_)
  · -- trimmed
    refine xdraw (xnil (xget (h:=xget (h:=xnil (xget (h:=xget (h:=?_)))))))
    refine xcl (segTrimK_spec (some l) d m lm o.n 1 i64_one) rdb ?_
    rintro ⟨e1,_⟩ _ ⟨he1,rfl⟩
    simp only at he1;subst he1
    refine app2 (ca1 (xchk (h:=xchk (h:=?_))))
    refine xcl (rTrim14c_spec (some r) x m lm o.n 1 i64_one (fun sg _=>h.gone o.n 1 sg)) rdb ?_
    rintro ⟨e1,_⟩ _ ⟨he1,rfl⟩
    simp only at he1;subst he1
    have h':=h.trim o.n 1
    have hr':(trimL m lm o.n 1).1.room≤65536:=by rw [trim_room h];exact hr
    refine app2 (ca1 ?_)
    simp only [beq_self_eq_true]
    exact fin _ _ X h' hr' (hX.mono (by omega))
  refine xif (fun hk=>?_) (fun hk=>?_)
  · -- synced
    refine xdraw (xnil (xget (h:=xnil (xget (h:=?_)))))
    refine xcl (sSync_spec (some l) d m lm h.safe) rdb ?_
    rintro ⟨e1,_⟩ _ ⟨he1,rfl⟩
    simp only at he1;subst he1
    refine app2 (ca1 (xchk (h:=?_)))
    refine xcl (rSync14_spec (some r) x m lm h.safe) rdb ?_
    rintro ⟨e1,_⟩ _ ⟨he1,rfl⟩
    simp only at he1;subst he1
    have h':=h.sync
    have hr':(syncL m lm).1.room≤65536:=by rw [h'.2.2.room];exact hr
    have e2:(if (syncL m lm).2.2=0 then (0:Int) else 10)=(syncL m lm).2.2:=by
      split
      · rename_i e;exact e.symm
      · rename_i e;exact (h'.2.1 e).symm
    refine app2 (ca1 ?_)
    rw [e2]
    simp only [beq_self_eq_true]
    exact fin _ _ X h'.1 hr' (hX.mono (by omega))
  · exact fin m lm X h hr (hX.mono (by omega))
end Go.Cx
namespace Go.Cx
open Go Go.Cf
set_option linter.unusedVariables false
set_option maxRecDepth 100000
variable {B:Base}{As F:List HP}{α:Type}
inductive PQ (c:Nat) (d x:Option Addr):Option Addr→Option Addr→Option Addr→Option Addr→DM→List HP→Prop
  | no (m:DM) (hI:DInv m) (hr:m.room≤65536):PQ c d x none none none none m []
  | lg (m:DM) (lm:LM) (l r:Addr) (h:Ldev m lm) (hr:m.room≤65536):PQ c d x (some l) (some r) none none m [LogObj (some l) d lm,RLogObj (some r) x lm]
  | ix (m:DM) (lm:LM) (l r:Addr) (ib kb:Nat) (X:XM) (h:Ldev m lm) (hr:m.room≤65536) (hX:XOk c X):PQ c d x (some l) (some r) (some ⟨ib,0,none⟩) (some ⟨kb,0,none⟩) m [LogObj (some l) d lm,RLogObj (some r) x lm,IdxObj (some ⟨ib,0,none⟩) d (some l) X,RIdxObj (some ⟨kb,0,none⟩) x (some r) X]
theorem PB.split {c pb:Nat}{d x:Option Addr}{Bs:List HP}(h:PB c pb d x Bs):∃ l r i k m G,Bs=Blk pb (pairC d x l r i k)::DevObj d m::RefDev x m::G∧PQ c d x l r i k m G:=by
  cases h with
  | no m hI hr=>exact ⟨_,_,_,_,m,_,rfl,.no m hI hr⟩
  | lg m lm l r h hr=>exact ⟨_,_,_,_,m,_,rfl,.lg m lm l r h hr⟩
  | ix m lm l r ib kb X h hr hX=>exact ⟨_,_,_,_,m,_,rfl,.ix m lm l r ib kb X h hr hX⟩
theorem PQ.pb {c pb:Nat}{d x l r i k:Option Addr}{m:DM}{G:List HP}(h:PQ c d x l r i k m G):PB c pb d x (Blk pb (pairC d x l r i k)::DevObj d m::RefDev x m::G):=by
  cases h with
  | no _ hI hr=>exact .no _ hI hr
  | lg _ lm l r h hr=>exact .lg _ lm l r h hr
  | ix _ lm l r ib kb X h hr hX=>exact .ix _ lm l r ib kb X h hr hX
theorem PQ.inv {c:Nat}{d x l r i k:Option Addr}{m:DM}{G:List HP}(h:PQ c d x l r i k m G):DInv m∧m.room≤65536:=by
  cases h with
  | no _ hI hr=>exact ⟨hI,hr⟩
  | lg _ lm l r h hr=>exact ⟨h.inv,hr⟩
  | ix _ lm l r ib kb X h hr hX=>exact ⟨h.inv,hr⟩
theorem PQ.arm {c:Nat}{d x l r i k:Option Addr}{m:DM}{G:List HP}(h:PQ c d x l r i k m G) (n:Int) (hn:i64 n):PQ c d x l r i k (armM m n) G:=by
  have hA:=arm_inv h.inv.1 hn
  have t:Touch m (armM m n) (fun _=>True):=⟨hA,rfl,fun hd=>⟨hd,fun _ _=>rfl⟩⟩
  cases h with
  | no _ hI hr=>exact .no _ hA hr
  | lg _ lm l r h hr=>exact .lg _ lm l r (h.touch t fun _ _=>trivial) hr
  | ix _ lm l r ib kb X h hr hX=>exact .ix _ lm l r ib kb X (h.touch t fun _ _=>trivial) hr hX
theorem PQ.grow {c:Nat}{d x l r i k:Option Addr}{m:DM}{G:List HP}(h:PQ c d x l r i k m G) (nm:ByteArray) (b:List UInt8):PQ c d x l r i k (appendM m nm b).1 G:=by
  have t:=append_touch h.inv.1 nm b
  cases h with
  | no _ hI hr=>exact .no _ t.inv (by rw [t.room];exact hr)
  | lg _ lm l r h hr=>exact .lg _ lm l r (h.grow nm b) (by rw [t.room];exact hr)
  | ix _ lm l r ib kb X h hr hX=>exact .ix _ lm l r ib kb X (h.grow nm b) (by rw [t.room];exact hr) hX
theorem PQ.mono {c c':Nat}{d x l r i k:Option Addr}{m:DM}{G:List HP}(h:PQ c d x l r i k m G) (hc:c≤c'):PQ c' d x l r i k m G:=by
  cases h with
  | no _ hI hr=>exact .no _ hI hr
  | lg _ lm l r h hr=>exact .lg _ lm l r h hr
  | ix _ lm l r ib kb X h hr hX=>exact .ix _ lm l r ib kb X h hr (hX.mono hc)
theorem xord (Q:List HP) {G:List HP} [q:Split Q As G] {φ:WP}(h:Ent B (Q++G) φ):Ent B As φ:=Ent.perm q.perm h
theorem ca1' {s:Sh}{Bs G:List HP}{K:s.ty→WP}{x:s.ty}{u:Unit}(h:Ent B (Bs++G) (K x)):Ent B (Bs++G) (Cur.app [s] K (x,u)):=h
theorem PB.end {c pb:Nat}{d x:Option Addr}{Bs G:List HP}{t:Bool}(ht:t=true) (h:PB c pb d x Bs):Ent B (Bs++G) (Ret B (ss:=[.bool]) (fun t Bs=>t.1=true∧PB c pb d x Bs) (t,())):=by
  subst ht;exact xkeep (xret ⟨rfl,h⟩)
theorem pCall_spec (c pb:Nat) (hc:c≤1000) (d x:Option Addr) (Bs:List HP) (hB:PB c pb d x Bs) (o:OP16) (bs:List UInt8) (hn:i64 o.n) (ht:o.r.tag.size≤4096) :
    Ct Pr F_law16_pair_call [.pointer (some ⟨pb,0,none⟩),o.v] .one [.bool] Bs ((RAr U8 o.data bs).and (GTab.and GBeh)) (fun t Bs=>t.1=true∧PB (c+1) pb d x Bs):=by
  refine spec1 c_law16_pair_call fun B hg=>?_
  haveI:FroP B GTab:=⟨hg.2.1,fun _ _ h s=>GTab.mono _ _ h s⟩
  haveI:FroP B GBeh:=⟨hg.2.2,fun _ _ h s=>GBeh.mono _ _ h s⟩
  haveI:Fro B o.data U8 bs:=⟨hg.1⟩
  obtain ⟨l,r,i,k,m,G,rfl,hQ⟩:=hB.split
  obtain ⟨hI,hr⟩:=hQ.inv
  unfold law16_pair_call
  refine xnew fun b=>xget (h:=?_)
  refine xif (fun hk=>?_) (fun hk=>?_)
  · -- awoken
    refine xdraw (xnil (xget (h:=xget (h:=?_))))
    refine xcl (Wake_spec d m o.n) rdb ?_
    rintro _ _ rfl
    refine app1 (ca0 (xdraw (xnil (xget (h:=xget (h:=?_))))))
    refine xcl (rWake_spec x m o.n) rdb ?_
    rintro _ _ rfl
    refine app1 (ca0 ?_)
    have hW:=wake_inv hI o.n
    refine xcl (pLogs_spec (c+1) pb d x l r i k (wakeM m o.n) hW hr) rdb ?_
    rintro ⟨t,_⟩ Bs ⟨ht,hB⟩
    exact ca1' (hB.end ht)
  have hQ1:=hQ.mono (Nat.le_succ c)
  refine xjoin0 (fun As'=>∃ m',PQ c d x l r i k m' G∧As'=Blk b o.cells::Blk pb (pairC d x l r i k)::DevObj d m'::RefDev x m'::G) (fun K1 hK1=>?_) ?_
  · refine xif (fun hk2=>?_) (fun hk2=>?_)
    · -- armed
      refine xdraw (xnil (xget (h:=?_)))
      refine xfact 2 (P1:=DevObj d m) (fun g hg=>devAt hg) fun hd=>?_
      obtain ⟨db,rfl⟩:=hd
      refine xnil (xget (h:=?_))
      refine xcl (Arm_spec (some ⟨db,0,none⟩) m o.n hn) rdb ?_
      rintro _ _ rfl
      refine app1 (ca0 (xdraw (xnil (xget (h:=xget (h:=?_))))))
      refine xcl (rArm_spec x m o.n hn) rdb ?_
      rintro _ _ rfl
      refine app1 (ca0 ?_)
      refine xord [Blk b o.cells,Blk pb (pairC (some ⟨db,0,none⟩) x l r i k),DevObj (some ⟨db,0,none⟩) (armM m o.n),RefDev x (armM m o.n)] ?_
      exact hK1 _ ⟨_,hQ.arm o.n hn,rfl⟩
    refine xif (fun hk3=>?_) (fun hk3=>?_)
    · -- a file is spoilt
      refine xdraw (xjoin (xnil (xget (h:=xget (h:=xget (h:=xnil (xget (h:=xget (h:=xget (h:=?_))))))))))
      refine xcl (Append_spec d m o.name o.data bs) rdb ?_
      rintro ⟨t,_⟩ _ ⟨h1,rfl⟩
      simp only at h1;subst h1
      refine app1 (ca1 (xchk (h:=xchk (h:=xchk (h:=?_)))))
      refine xcl (rAppend_spec x m o.name o.data bs) rdb ?_
      rintro ⟨t,_⟩ _ ⟨h1,rfl⟩
      simp only at h1;subst h1
      refine app1 (ca1 (xift (by simp) ?_))
      have hQ2:=hQ1.grow o.name bs
      generalize (appendM m o.name bs).1=m2 at *
      cases hQ2 with
      | no _ hI hr=>
        refine xcl (pOpen0_spec (c+1) pb d x none none none m2 hI hr) rdb ?_
        rintro ⟨t,_⟩ Bs ⟨ht,hB⟩
        exact ca1' (hB.end ht)
      | lg _ lm l r h hr=>
        refine xcl (pOpen_spec (c+1) pb d x none none l r m2 lm h hr) rdb ?_
        rintro ⟨t,_⟩ Bs ⟨ht,hB⟩
        exact ca1' (hB.end ht)
      | ix _ lm l r ib kb X h hr hX=>
        refine xcl (pOpen_spec (c+1) pb d x (some ⟨ib,0,none⟩) (some ⟨kb,0,none⟩) l r m2 lm h hr) rdb ?_
        rintro ⟨t,_⟩ Bs ⟨ht,hB⟩
        exact ca1' (hB.end ht)
    refine xif (fun hk4=>?_) (fun hk4=>?_)
    · -- filled
      refine xdraw (xnil (xget (h:=xget (h:=xnil (xget (h:=xget (h:=?_)))))))
      refine xcl (Append_spec d m ⟨#[102,105,108,108]⟩ o.data bs) rdb ?_
      rintro ⟨t,_⟩ _ ⟨h1,rfl⟩
      simp only at h1;subst h1
      refine app1 (ca1 (xchk (h:=xchk (h:=?_))))
      refine xcl (rAppend_spec x m ⟨#[102,105,108,108]⟩ o.data bs) rdb ?_
      rintro ⟨t,_⟩ _ ⟨h1,rfl⟩
      simp only at h1;subst h1
      have hQ2:=hQ1.grow ⟨#[102,105,108,108]⟩ bs
      refine app1 (ca1 ?_)
      simp only [beq_self_eq_true]
      generalize (appendM m ⟨#[102,105,108,108]⟩ bs).1=m2 at *
      refine xord [Blk pb (pairC d x l r i k),DevObj d m2,RefDev x m2] ?_
      refine app3 (xdrop 3 ?_)
      exact xret ⟨rfl,hQ2.pb⟩
    · exact hK1 _ ⟨m,hQ,rfl⟩
  clear hQ1 hr hI hB hQ m
  rintro _ ⟨m,hQ,rfl⟩
  obtain ⟨hI,hr⟩:=hQ.inv
  cases hQ with
  | no _ hI hr=>
    refine xnil (xget (h:=xift rfl ?_))
    exact xdrop 0 (xret ⟨rfl,.no m hI hr⟩)
  | lg _ lm l r h hr=>
    refine xnil (xget (h:=xift rfl ?_))
    exact xdrop 0 (xret ⟨rfl,.lg m lm l r h hr⟩)
  | ix _ lm l r ib kb X h hr hX=>
    have hXl:=hX.len
    refine xnil (xget (h:=xiff rfl (xget (h:=?_))))
    refine xif (fun h1=>?_) (fun h1=>?_)
    · refine xdraw (xnil (xget (h:=xget (h:=xget (h:=xnil (xget (h:=xget (h:=xget (h:=?_)))))))))
      refine xcl (iAddc_spec (some ⟨ib,0,none⟩) d (some l) X (o.n,o.k) (by omega)) rdb ?_
      rintro ⟨t,_⟩ _ ⟨h2,rfl⟩
      simp only at h2;subst h2
      refine app1 (ca1 (xchk (h:=xchk (h:=xchk (h:=?_)))))
      refine xcl (rAdd16c_spec (some ⟨kb,0,none⟩) x (some r) X (o.n,o.k) (by omega)) rdb ?_
      rintro ⟨t,_⟩ _ ⟨h2,rfl⟩
      simp only at h2;subst h2
      refine app1 (ca1 ?_)
      simp only [beq_self_eq_true]
      exact xuse _ (xret ⟨rfl,.ix m lm l r ib kb (addX X (o.n,o.k)) h hr (hX.add hc _)⟩)
    refine xif (fun h1=>?_) (fun h1=>?_)
    · refine xdraw (xnil (xget (h:=xnil (xget (h:=?_)))))
      refine xcl (iSave_spec ib d (some l) m lm X hX.time hX.inv) rdb ?_
      rintro ⟨t,_⟩ _ ⟨h2,rfl⟩
      simp only at h2;subst h2
      refine app3 (ca1 (xchk (h:=?_)))
      refine xcl (rSave16_spec kb x (some r) m lm X) rdb ?_
      rintro ⟨t,_⟩ _ ⟨h2,rfl⟩
      simp only at h2;subst h2
      refine app3 (ca1 ?_)
      simp only [beq_self_eq_true]
      exact xuse _ (xret ⟨rfl,.ix _ lm l r ib kb _ (h.save lm.lo X) (by rw [(save_touch h.inv lm.lo X).room];exact hr) ((hX.save m lm.lo).mono (by omega))⟩)
    refine xif (fun h1=>?_) (fun h1=>?_)
    · refine xget (h:=xget (h:=xget (h:=?_)))
      refine xcl (pAsked_spec pb d x (some l) (some r) ib kb X o.n o.k o.f (by omega)) rdb ?_
      rintro ⟨t,_⟩ _ ⟨h2,rfl⟩
      simp only at h2;subst h2
      refine app3 (ca1 ?_)
      exact xuse _ (xret ⟨rfl,.ix m lm l r ib kb X h hr (hX.mono (by omega))⟩)
    · iterate 11 (refine xget (h:=?_))
      refine xcl (pLog_spec c pb hc d x l r ib kb m lm X h hr hX o bs ht) (rds_and rdb rdb) ?_
      rintro ⟨t,_⟩ Bs ⟨ht,hB⟩
      exact ca1' (hB.end ht)
end Go.Cx
namespace Go.Cx
open Go Go.Cf
set_option linter.unusedVariables false
set_option maxRecDepth 100000
variable {B:Base}{As F:List HP}{α:Type}
def OPE:Enc OP16:=⟨fun o=>o.cells,11,fun _=>rfl,fun x v h=>by
  simp at h
  rcases h with rfl | rfl | rfl | rfl | rfl | rfl | rfl | rfl | rfl | rfl | rfl<;>rfl,by decide,⟨0,0,0,0,rec0,ByteArray.empty,⟨none,0,0⟩⟩⟩
def OpsAt (s:Sl) (os:List OP16):HP:=fun h=>RAr OPE s os h∧∀ o∈os,∃ bs:List UInt8,RAr U8 o.data bs h
theorem long_spec (p:Sl) (os:List OP16) (hl:os.length≤1000):Ct Pr F_law16_long [p.v] .one [.bool] [] (RAr OPE p os) (fun t Bs=>Bs=[]):=by
  refine spec1 c_law16_long fun B hr=>?_
  haveI:Fro B p OPE os:=⟨hr⟩
  have h1:=hr.1
  unfold law16_long
  refine xif_dec (fun h=>xret rfl) (fun h=>?_)
  refine xloop1 (fun m (x:Int) As'=>∃ k:Nat,x=(k:Int)∧m=os.length - k∧k≤os.length∧As'=[]) os.length ⟨0,rfl,rfl,by omega,rfl⟩ ?_
  rintro m x As' K ⟨k,rfl,rfl,hk,rfl⟩ hK
  refine xif_dec (fun hp=>?_) (fun hp=>xret rfl)
  obtain ⟨o,ho⟩:∃ o,os[k]? = some o:=⟨_,List.getElem?_eq_getElem (by omega)⟩
  refine xidxn (E:=OPE) (xs:=os) (s:=p) (h1:=by omega) (h:=fun _ _=>?_)
  refine xgetEj (E:=OPE) (xs:=os) ho (h:=?_)
  refine xjoin1 (fun(c:Bool) As'=>As'=[]) (fun K1 hK1=>?_) ?_
  · refine xif_dec (fun h2=>hK1 _ _ rfl) (fun h2=>?_)
    refine xidxn (E:=OPE) (xs:=os) (s:=p) (h1:=by omega) (h:=fun _ _=>?_)
    exact xgetEj (E:=OPE) (xs:=os) ho (h:=hK1 _ _ rfl)
  rintro c _ rfl
  refine xjoin1 (fun(c:Bool) As'=>As'=[]) (fun K1 hK1=>?_) ?_
  · refine xif (fun h2=>hK1 _ _ rfl) (fun h2=>?_)
    refine xidxn (E:=OPE) (xs:=os) (s:=p) (h1:=by omega) (h:=fun _ _=>?_)
    exact xgetEj (E:=OPE) (xs:=os) ho (h:=hK1 _ _ rfl)
  rintro c _ rfl
  refine xif (fun h2=>xret rfl) (fun h2=>?_)
  rw [wrap_succ k (by omega)]
  exact hK _ _ _ (by omega) ⟨k+1,rfl,rfl,by omega,rfl⟩
theorem xclB {P:Program}{f:FuncId}{args:List Value}{rs:Rs}{ss:List Sh}{rd:HP}{post:Tup ss→List HP→Prop}{K:Cur ss}
    (sp:Ct P f args rs ss As rd post) (hrd:Rds B [] rd) (h:∀ t Bs,post t Bs→Ent B Bs (Cur.app ss K t)):Ent B As (XCall P f args rs ss K):=
  xcall sp (by rw [List.append_nil]) hrd (fun t Bs hp=>by rw [List.append_nil];exact h t Bs hp)
theorem runs16_spec (room:Int) (hroom:room≤65536) (p:Sl) (os:List OP16) (hl:os.length≤1000) (hok:∀ o∈os,i64 o.n∧o.r.tag.size≤4096) :
    Ct Pr F_law16_IndexRuns [.int .i64 room,p.v] .one [.bool] [] ((OpsAt p os).and (GTab.and GBeh)) (fun t Bs=>t.1=true∧Bs=[]):=by
  refine spec1 c_law16_IndexRuns fun B hg=>?_
  obtain ⟨⟨hr,hrow⟩,hg1,hg2⟩:=hg
  haveI:FroP B GTab:=⟨hg1,fun _ _ h s=>GTab.mono _ _ h s⟩
  haveI:FroP B GBeh:=⟨hg2,fun _ _ h s=>GBeh.mono _ _ h s⟩
  haveI:Fro B p OPE os:=⟨hr⟩
  have hp1:=hr.1
  unfold law16_IndexRuns
  have works:∀ {As:List HP}{K:Bool→WP},Ent B As (K true)→Ent B As (XCall Pr F_law16_works [] .one [.bool] K):=by
    intro As K hK
    refine xcall0 works16_spec rdb ?_
    rintro ⟨c,_⟩ _ ⟨hc,rfl⟩
    simp only at hc;subst hc
    exact app0 (ca1 hK)
  have fin:∀ {As:List HP},Ent B As (Ret B (ss:=[.bool]) (fun t Bs=>t.1=true∧Bs=[]) (true,())):=xkeep (l:=[]) (xret ⟨rfl,rfl⟩)
  refine xcall0 (New_spec room) rdb ?_
  rintro ⟨q,e,_⟩ Bs1 hn1
  have hn1:(((room<0∨room>16777216)∧q=none∧e=3∧Bs1=[])∨(0≤room∧room≤16777216∧e=0∧(∃ b,q=some ⟨b,0,none⟩)∧Bs1=[DevObj q ⟨false,false,0,room,[]⟩])):=hn1
  rcases hn1 with ⟨hb,rfl,rfl,rfl⟩ | ⟨h0,h1,rfl,⟨qb,rfl⟩,rfl⟩
  · refine app0 (ca2 ?_)
    refine xcall0 (rNew_spec room) rdb ?_
    rintro ⟨q,e,_⟩ Bs2 hn2
    refine xskip Bs2 (ca2 ?_)
    refine xcall0 (long_spec p os hl) rdb ?_
    rintro ⟨c,_⟩ _ rfl
    exact app0 (ca1 (xift (by simp) (works fin)))
  refine app1 (ca2 ?_)
  refine xcall0 (rNew_spec room) rdb ?_
  rintro ⟨q,e,_⟩ Bs2 hn2
  have hn2:(((room<0∨room>16777216)∧q=none∧e=3∧Bs2=[])∨(0≤room∧room≤16777216∧e=0∧(∃ b,q=some ⟨b,0,none⟩)∧Bs2=[RefDev q ⟨false,false,0,room,[]⟩])):=hn2
  rcases hn2 with ⟨hb,rfl,rfl,rfl⟩ | ⟨_,_,rfl,⟨xb,rfl⟩,rfl⟩
  · omega
  refine app1 (ca2 ?_)
  refine xcall0 (long_spec p os hl) rdb ?_
  rintro ⟨c,_⟩ _ rfl
  refine app0 (ca1 (xif (fun hc=>works fin) (fun hc=>?_)))
  refine xnew fun b=>?_
  refine xfact 2 (P1:=DevObj (some ⟨qb,0,none⟩) ⟨false,false,0,room,[]⟩) (fun g hg=>hg.1) fun hI=>?_
  refine xcl (pLogs_spec 0 b (some ⟨qb,0,none⟩) (some ⟨xb,0,none⟩) none none none none ⟨false,false,0,room,[]⟩ hI hroom) rdb ?_
  rintro ⟨t,_⟩ Bs ⟨ht,hB⟩
  simp only at ht;subst ht
  refine ca1' (xiff rfl ?_)
  rw [show (Bs++([]:List HP))=Bs from List.append_nil Bs]
  refine xloop1 (fun n (z:Int) As'=>∃ k:Nat,z=(k:Int)∧n=os.length - k∧k≤os.length∧PB k b (some ⟨qb,0,none⟩) (some ⟨xb,0,none⟩) As') os.length ⟨0,rfl,rfl,by omega,hB⟩ ?_
  clear hB
  rintro n _ As' K ⟨k,rfl,rfl,hk,hB⟩ hK
  refine xif_dec (fun hlt=>?_) (fun hlt=>?_)
  · obtain ⟨o,ho⟩:∃ o,os[k]? = some o:=⟨_,List.getElem?_eq_getElem (by omega)⟩
    obtain ⟨bs,hbs⟩:=hrow o (List.mem_of_getElem? ho)
    haveI:Fro B o.data U8 bs:=⟨hbs⟩
    obtain ⟨ok1,ok2⟩:=hok o (List.mem_of_getElem? ho)
    refine xdraw (xjoin1 (fun(c:Bool) As'=>c=false∧PB (k+1) b (some ⟨qb,0,none⟩) (some ⟨xb,0,none⟩) As') (fun K1 hK1=>?_) ?_)
    · refine xidxn (E:=OPE) (xs:=os) (s:=p) (h1:=by omega) (h:=fun _ _=>?_)
      refine xgetE (E:=OPE) (xs:=os) ho (h:=?_)
      iterate 10 (refine xgetEj (E:=OPE) (xs:=os) ho (h:=?_))
      refine xclB (pCall_spec k b (by omega) (some ⟨qb,0,none⟩) (some ⟨xb,0,none⟩) As' hB o bs ok1 ok2) (rds_and rdb (rds_and rdb rdb)) ?_
      rintro ⟨t,_⟩ Bs ⟨ht,hB⟩
      simp only at ht;subst ht
      refine ca1 (xiff rfl ?_)
      have look:∀ {As G:List HP}{l r i q:Option Addr}{m:DM}{R:List HP},PQ (k+1) (some ⟨qb,0,none⟩) (some ⟨xb,0,none⟩) l r i q m R→[Split (Blk b (pairC (some ⟨qb,0,none⟩) (some ⟨xb,0,none⟩) l r i q)::DevObj (some ⟨qb,0,none⟩) m::RefDev (some ⟨xb,0,none⟩) m::R) As G] →
          Ent B As (XCall Pr F_law12_Looks [.pointer (some ⟨qb,0,none⟩),.pointer (some ⟨xb,0,none⟩)] .one [.bool] fun c5=>K1 (!c5)):=by
        intro As G l r i q m R hQ _
        refine xuse (Blk b (pairC (some ⟨qb,0,none⟩) (some ⟨xb,0,none⟩) l r i q)::DevObj (some ⟨qb,0,none⟩) m::RefDev (some ⟨xb,0,none⟩) m::R) ?_
        refine xcl (Looks_spec (some ⟨qb,0,none⟩) (some ⟨xb,0,none⟩) m) rdb ?_
        rintro ⟨t,_⟩ _ ⟨h1,rfl⟩
        simp only at h1;subst h1
        refine app2 (ca1 ?_)
        refine xord [Blk b (pairC (some ⟨qb,0,none⟩) (some ⟨xb,0,none⟩) l r i q),DevObj (some ⟨qb,0,none⟩) m,RefDev (some ⟨xb,0,none⟩) m] ?_
        exact hK1 _ _ ⟨rfl,hQ.pb⟩
      cases hB with
      | no m hI hr=>exact xnil (xget (h:=xiff rfl (xiff rfl (look (.no m hI hr)))))
      | lg m lm l r h hr=>exact xnil (xget (h:=xiff rfl (xiff rfl (look (.lg m lm l r h hr)))))
      | ix m lm l r ib kb X h hr hX=>
        refine xnil (xget (h:=xift rfl (xnil (xget (h:=xnil (xget (h:=?_)))))))
        refine xridx 6 fun hi kb' s hx=>?_
        obtain rfl:kb=kb':=by cases hx;rfl
        refine xnil (xget (h:=?_))
        refine xlen (E:=KE) (xs:=X.L) s fun hsn _=>?_
        refine xcl (iLen_spec (some ⟨ib,0,none⟩) (some ⟨qb,0,none⟩) (some l) X) rdb ?_
        rintro ⟨t,_⟩ _ ⟨h1,rfl⟩
        simp only at h1;subst h1
        refine app1 (ca1 (xchk (h:=xchk (h:=?_))))
        refine xridx_back (d:=some ⟨xb,0,none⟩) (l:=some r) (m:=X) kb s hi ?_
        refine xiff (by simp;omega) ?_
        exact look (.ix m lm l r ib kb X h hr hX)
    · rintro _ As' ⟨rfl,hB⟩
      rw [wrap_succ k (by omega)]
      exact xiff rfl (hK (os.length - (k+1)) _ _ (by omega) ⟨k+1,rfl,rfl,by omega,hB⟩)
  · have end1:∀ {c:Bool}{As:List HP}{K2:Bool→WP},c=true→Ent B As (K2 true)→Ent B As (K2 c):=fun h k=>by subst h;exact k
    cases hB with
    | no m hI hr=>
      refine xnil (xget (h:=xjoin (xift rfl (xjoin (xift rfl (works fin))))))
    | lg m lm l r h hr=>
      refine xnil (xget (h:=xjoin (xift rfl (xjoin (xift rfl (works fin))))))
    | ix m lm l r ib kb X h hr hX=>
      have hXl:=hX.len
      refine xnil (xget (h:=xjoin (xiff rfl ?_)))
      refine xcl (pAsked_spec b (some ⟨qb,0,none⟩) (some ⟨xb,0,none⟩) (some l) (some r) ib kb X _ _ _ (by omega)) rdb ?_
      rintro ⟨t,_⟩ _ ⟨h2,rfl⟩
      simp only at h2;subst h2
      exact app3 (ca1 (xjoin (xift rfl (works fin))))
end Go.Cx
