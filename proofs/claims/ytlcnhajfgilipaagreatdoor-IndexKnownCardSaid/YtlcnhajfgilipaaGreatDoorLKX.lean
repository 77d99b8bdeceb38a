/-
  From other seats: Looks_spec, Wake_spec, rWake_spec, rArm_spec, Arm_spec, SameTexts_spec.
-/
import Derived.Test.YtlcnhajfgilipaaGreatDoorVY
import Derived.Test.YtlcnhajfgilipaaGreatDoorMX1
import Derived.Test.YtlcnhajfgilipaaGreatDoorDK
import Derived.Test.YtlcnhajfgilipaaGreatDoorRD
namespace Go.Cx
open Go Go.Cf
set_option linter.unusedVariables false
set_option maxRecDepth 100000
variable {B:Base}{As F:List HP}{α:Type}
theorem SpoilBytes_spec (l:Sl) (xs:List UInt8):Ct Pr F_kit_SpoilBytes [l.v] (.tup []) [] [Ar U8 l xs] emp (fun t Bs=>Bs=[]):=by
  refine spec0 c_kit_SpoilBytes fun B _=>?_
  unfold kit_SpoilBytes
  refine xslc0 rfl (by omega) (by omega) ?_
  rw [Int.toNat_natCast]
  refine xars 0 fun zs h1 h2=>?_
  refine xfact 0 (fun g hg=>hg.cap_le) fun hM=>?_
  refine xshift l.c (xs++zs) [] (by simp) (by simpa using h2) (xar ?_)
  refine xloop1 (fun n i As=>∃ (k:Nat) (ys:List UInt8),i=(k:Int)∧n=l.c - k∧k≤l.c∧ys.length=l.c∧As=[Ar U8 ⟨l.p,l.c,l.c⟩ ys]) l.c ⟨0,xs++zs,rfl,rfl,by omega,by simpa using h2,rfl⟩ ?_
  rintro n _ _ K ⟨k,ys,rfl,rfl,hk,hl,rfl⟩ hK
  refine xif_dec (fun h=>?_) (fun h=>?_)
  · simp only at h
    refine xidxn (h1:=by omega) (h:=fun y hy=>?_)
    refine xgetE hy (h:=?_)
    refine xidxn (h1:=by omega) (h:=fun y' _=>?_)
    refine xsetE (UInt8.ofNat (bits .xor .u8 (y.toNat:Int) 90).toNat) hy (hv:=by
      have:=bits_u8 .xor (y.toNat:Int) 90
      simp only [U8,List.set_cons_zero,List.cons.injEq,Value.int.injEq,true_and,and_true]
      rw [UInt8.toNat_ofNat'];omega) (h:=?_)
    rw [wrap_succ k (by omega)]
    exact hK (l.c - (k+1)) _ _ (by omega) ⟨k+1,_,rfl,rfl,by omega,by simpa using hl,rfl⟩
  · exact xdrop 0 (xret rfl)
theorem Arm_spec (p:Option Addr) (m:DM) (n:Int) (hn:i64 n):Ct Pr F_device_power_Arm [.pointer p,.int .i64 n] (.tup []) [] [DevObj p m] emp (fun t Bs=>Bs=[DevObj p (armM m n)]):=by
  refine spec0 c_device_power_Arm fun B _=>?_
  unfold device_power_Arm
  refine xdev 0 fun hi b s cs hp sf hsn=>?_
  subst hp
  exact xnil (xset (h:=xnil (xset (h:=xdev_put 0 0 0 b s cs (armM m n) (arm_inv hi hn) (fun _ h=>h) (xret rfl)))))
theorem Wake_spec (p:Option Addr) (m:DM) (keep:Int):Ct Pr F_device_Device_Wake [.pointer p,.int .i64 keep] (.tup []) [] [DevObj p m] emp (fun t Bs=>Bs=[DevObj p (wakeM m keep)]):=by
  refine spec0 c_device_Device_Wake fun B _=>?_
  unfold device_Device_Wake
  refine xdev 0 fun hi b s cs hp sf hsn=>?_
  subst hp
  have hinv:=wake_inv hi keep
  have hlen:=hi.len
  have hcl:=sf.len
  refine xnil (xget (h:=?_))
  refine xloop1 (fun n i As=>∃ (k:Nat) (cs':List CF),i=(k:Int)∧n=m.fs.length - k∧k≤m.fs.length∧cs'.length=m.fs.length∧As=[Blk b (devCells m s),Ar FILE s cs',Each FileR cs' ((m.fs.map (wakeF keep)).take k++m.fs.drop k)]) m.fs.length ⟨0,cs,rfl,rfl,by omega,hcl,rfl⟩ ?_
  rintro n _ _ K ⟨k,cs',rfl,rfl,hk,hl',rfl⟩ hK
  refine xif_dec (fun h=>?_) (fun h=>?_)
  · refine xfact 2 (fun g hg=>sf_of hg) fun sf'=>?_
    have hkl:k<m.fs.length:=by omega
    have hf0:=List.getElem?_eq_getElem hkl
    have hsy:=hi.syn _ (List.getElem_mem hkl)
    have hfb:m.fs[k].b.length≤16777216:=by
      have h1:=usedN_erase hf0
      have h2:=hi.used
      have h3:=hi.room
      omega
    have hf:((m.fs.map (wakeF keep)).take k++m.fs.drop k)[k]? = some m.fs[k]:=by
      rw [List.getElem?_append_right (by simp;omega)]
      simp [Nat.min_eq_left (Nat.le_of_lt hkl),hf0]
    have hset:((m.fs.map (wakeF keep)).take k++m.fs.drop k).set k (wakeF keep m.fs[k])=(m.fs.map (wakeF keep)).take (k+1)++m.fs.drop (k+1):=by
      have hlt:((m.fs.map (wakeF keep)).take k).length=k:=by simp;omega
      rw [List.drop_eq_getElem_cons hkl,List.set_append_right _ _ (by omega),hlt,Nat.sub_self,List.set_cons_zero,List.take_add_one,List.getElem?_map,hf0]
      simp only [Option.map_some,Option.toList_some,List.append_assoc,List.singleton_append]
    generalize m.fs[k]=f at *
    have hc:=List.getElem?_eq_getElem (l:=cs') (i:=k) (by omega)
    generalize cs'[k]=c at hc
    obtain ⟨e1,e2,e3,e4⟩:=sf'.each _ _ _ hc hf
    have hkn:=keepN_le hsy keep
    refine xnil (xget (h:=?_))
    refine xidxn (h1:=by omega) (h:=fun _ _=>xdraw (xnil ?_))
    refine xgetEj hc (h:=xnil ?_)
    refine xgetEj hc (h:=xnil ?_)
    refine xgetEj hc (h:=xnil ?_)
    rw [e2,e3,keep_eq keep hsy hfb]
    refine xsetEj (c.1,c.2.1,keepN keep f) hc (hj:=by decide) (hv:=rfl) (h:=xdraw (xnil ?_))
    have hc2:(cs'.set k (c.1,c.2.1,keepN keep f))[k]? = some (c.1,c.2.1,keepN keep f):=List.getElem?_set_self (by omega)
    refine xgetEj hc2 (h:=xnil ?_)
    refine xgetEj hc2 (h:=?_)
    dsimp only
    refine xslc0 rfl (by omega) (by omega) (xnil ?_)
    refine xsetEj (c.1,⟨c.2.1.p,(keepN keep f).toNat,c.2.1.c⟩,keepN keep f) hc2 (hj:=by decide) (hv:=rfl) (h:=?_)
    rw [List.set_set,wrap_succ k (by omega)]
    refine xfold1 2 (file_set (c':=(c.1,⟨c.2.1.p,(keepN keep f).toNat,c.2.1.c⟩,keepN keep f)) (f':=wakeF keep f) hc hf (fun g h=>⟨h.1,rfl,ar_cut (by omega) h.2.2⟩)) ?_
    rw [hset]
    exact xback 0 (hK (m.fs.length - (k+1)) _ _ (by omega) ⟨k+1,_,rfl,rfl,by omega,by simpa using hl',rfl⟩)
  · have hk':k=m.fs.length:=by omega
    subst hk'
    rw [List.take_of_length_le (by simp),List.drop_length,List.append_nil]
    refine xnil (xset (h:=xset (h:=xset (h:=?_))))
    exact xdev_put 0 0 0 b s cs' (wakeM m keep) hinv (fun _ h=>h) (xret rfl)
theorem SameTexts_spec (a b:Sl) (xs ys:List ByteArray) (hm:xs.length≤140737488355328) :
    Ct Pr F_kit_SameTexts [a.v,b.v] .one [.bool] [] ((RAr ST a xs).and (RAr ST b ys)) (fun t Bs=>t.1=decide (xs=ys)∧Bs=[]):=by
  refine spec1 c_kit_SameTexts fun B hr=>?_
  have fa:Fro B a ST xs:=⟨hr.1⟩
  have fb:Fro B b ST ys:=⟨hr.2⟩
  have ha:=hr.1.1
  have hb:=hr.2.1
  unfold kit_SameTexts
  refine xif (fun h=>?_) (fun h=>?_)
  · refine xret ⟨?_,rfl⟩
    have:xs≠ys:=fun e=>by subst e;simp [←ha,←hb] at h
    simp [this]
  · have hl:xs.length=ys.length:=by simp at h;omega
    refine xloop1 (fun n i As=>∃ k:Nat,i=(k:Int)∧n=xs.length - k∧k≤xs.length∧xs.take k=ys.take k∧As=[]) xs.length ⟨0,rfl,rfl,by omega,rfl,rfl⟩ ?_
    rintro n _ _ K ⟨k,rfl,rfl,hk,he,rfl⟩ hK
    refine xif_dec (fun h=>?_) (fun h=>?_)
    · refine xdraw (xidxn rfl (by omega) fun x hx=>xgetE hx rfl rfl (xidxn rfl (by omega) fun y hy=>xgetE hy rfl rfl ?_))
      refine xif (fun h=>?_) (fun h=>?_)
      · refine xret ⟨?_,rfl⟩
        have:xs≠ys:=fun e=>by subst e;rw [hx] at hy;cases hy;simp at h
        simp [this]
      · rw [wrap_succ k (by omega)]
        refine hK (xs.length - (k+1)) _ _ (by omega) ⟨k+1,rfl,rfl,by omega,?_,rfl⟩
        have:x=y:=ba_toList_inj (by simpa using h)
        rw [List.take_add_one,List.take_add_one,he,hx,hy,this]
    · refine xret ⟨?_,rfl⟩
      have:k=xs.length:=by omega
      subst this
      rw [List.take_length,hl,List.take_length] at he
      simp [he]
theorem read_at {m:DM}(h:Sorted m.fs) {i:Nat}{f:DF}(hf:m.fs[i]? = some f):readM m f.nm=(f.b,0):=by
  obtain ⟨h1,h2⟩:=find_unique h hf rfl
  unfold readM
  simp only [DF.key] at h1 h2
  rw [h1,h2]
  simp [hf]
theorem rDown_spec (p:Option Addr) (m:DM):Ct Pr F_ref12_Device_Down [.pointer p] .one [.bool] [RefDev p m] emp (fun t Bs=>t.1=m.down∧Bs=[RefDev p m]):=by
  refine spec1 c_ref12_Device_Down fun B _=>?_
  unfold ref12_Device_Down
  refine xrdev 0 fun hi b s cs hp sf hn=>?_
  subst hp
  exact xnil (xget (h:=xrdev_back b s cs hi (xret ⟨rfl,rfl⟩)))
theorem rArm_spec (p:Option Addr) (m:DM) (n:Int) (hn:i64 n):Ct Pr F_ref12_Device_Arm [.pointer p,.int .i64 n] (.tup []) [] [RefDev p m] emp (fun t Bs=>Bs=[RefDev p (armM m n)]):=by
  refine spec0 c_ref12_Device_Arm fun B _=>?_
  unfold ref12_Device_Arm
  refine xrdev 0 fun hi b s cs hp sf hsn=>?_
  subst hp
  refine xnil (xset (h:=xjoin (xif_dec (fun h=>?_) (fun h=>?_))))
  · have e:leftR (armM m n) = -1:=by simp [leftR,armM];omega
    refine xnil (xset (h:=xrdev_put 0 0 0 b s cs (armM m n) (arm_inv hi hn) (fun _ h=>?_) (xret rfl)))
    unfold refCells
    rw [e];exact h
  · have e:leftR (armM m n)=n:=by simp [leftR,armM];omega
    refine xrdev_put 0 0 0 b s cs (armM m n) (arm_inv hi hn) (fun _ h=>?_) (xret rfl)
    unfold refCells
    rw [e];exact h
theorem rWake_spec (p:Option Addr) (m:DM) (keep:Int):Ct Pr F_ref12_Device_Wake [.pointer p,.int .i64 keep] (.tup []) [] [RefDev p m] emp (fun t Bs=>Bs=[RefDev p (wakeM m keep)]):=by
  refine spec0 c_ref12_Device_Wake fun B _=>?_
  unfold ref12_Device_Wake
  refine xrdev 0 fun hi b s cs hp sf hsn=>?_
  subst hp
  have hinv:=wake_inv hi keep
  have hlen:=hi.len
  have hcl:=sf.len
  refine xloop1 (fun n i As=>∃ (k:Nat) (cs':List CF),i=(k:Int)∧n=m.fs.length - k∧k≤m.fs.length∧cs'.length=m.fs.length∧As=[Blk b (refCells m s),Ar FILE s cs',Each FileR cs' ((m.fs.map (wakeF keep)).take k++m.fs.drop k)]) m.fs.length ⟨0,cs,rfl,rfl,by omega,hcl,rfl⟩ ?_
  rintro n _ _ K ⟨k,cs',rfl,rfl,hk,hl',rfl⟩ hK
  refine xnil (xget (h:=xif_dec (fun h=>?_) (fun h=>?_)))
  · refine xfact 2 (fun g hg=>sf_of hg) fun sf'=>?_
    have hkl:k<m.fs.length:=by omega
    have hf0:=List.getElem?_eq_getElem hkl
    have hsy:=hi.syn _ (List.getElem_mem hkl)
    have hfb:m.fs[k].b.length≤16777216:=by
      have h1:=usedN_erase hf0
      have h2:=hi.used
      have h3:=hi.room
      omega
    have hf:((m.fs.map (wakeF keep)).take k++m.fs.drop k)[k]? = some m.fs[k]:=by
      rw [List.getElem?_append_right (by simp;omega)]
      simp [Nat.min_eq_left (Nat.le_of_lt hkl),hf0]
    have hset:((m.fs.map (wakeF keep)).take k++m.fs.drop k).set k (wakeF keep m.fs[k])=(m.fs.map (wakeF keep)).take (k+1)++m.fs.drop (k+1):=by
      have hlt:((m.fs.map (wakeF keep)).take k).length=k:=by simp;omega
      rw [List.drop_eq_getElem_cons hkl,List.set_append_right _ _ (by omega),hlt,Nat.sub_self,List.set_cons_zero,List.take_add_one,List.getElem?_map,hf0]
      simp only [Option.map_some,Option.toList_some,List.append_assoc,List.singleton_append]
    generalize m.fs[k]=f at *
    have hc:=List.getElem?_eq_getElem (l:=cs') (i:=k) (by omega)
    generalize cs'[k]=c at hc
    obtain ⟨e1,e2,e3,e4⟩:=sf'.each _ _ _ hc hf
    have hkn:=keepN_le hsy keep
    generalize (m.fs.map (wakeF keep)).take k++m.fs.drop k=gs at *
    refine xnil (xget (h:=?_))
    refine xidxn (h1:=by omega) (h:=fun _ _=>?_)
    refine xgetEj hc (h:=?_)
    rw [e2]
    refine xloop2 (fun(n:Nat) (n1:Int) (q:Int) As=>∃ t:Nat,q=(t:Int)∧n1=f.sy+(t:Int)∧f.sy+(t:Int)≤f.b.length∧(t=0∨(t:Int)≤keep)∧n=(f.b.length - (f.sy+(t:Int))).toNat∧As=[Blk b (refCells m s),Ar FILE s cs',Each FileR cs' gs]) (f.b.length - f.sy).toNat ⟨0,rfl,by omega,by omega,.inl rfl,by omega,rfl⟩ ?_
    rintro n _ _ _ K2 ⟨q,rfl,rfl,hnl,hqk,rfl,rfl⟩ hK2
    refine xjoin1 (fun x As'=>x=decide ((q:Int)<keep∧f.sy+(q:Int)<f.b.length)∧As'=[Blk b (refCells m s),Ar FILE s cs',Each FileR cs' gs]) ?_ ?_
    · intro J hJ
      refine xif_dec (fun h=>?_) (fun h=>hJ _ _ ⟨by simp [h],rfl⟩)
      refine xnil (xget (h:=?_))
      refine xidxn (h1:=by omega) (h:=fun _ _=>?_)
      refine xgetEj hc (h:=hJ _ _ ⟨?_,rfl⟩)
      rw [e3];simp [h]
    rintro _ _ ⟨rfl,rfl⟩
    refine xif_dec (fun h=>?_) (fun h=>?_)
    · rw [wrap_id (f.sy+(q:Int)+1) (by omega) (by omega),wrap_succ q (by omega)]
      exact hK2 (f.b.length - (f.sy+((q+1:Nat):Int))).toNat _ _ _ (by omega) ⟨q+1,rfl,by omega,by omega,.inr (by omega),rfl,rfl⟩
    have hkeep:f.sy+(q:Int)=keepN keep f:=by
      unfold keepN
      split<;>split<;>omega
    rw [hkeep]
    refine xdraw (xnil (xget (h:=xnil (xget (h:=?_)))))
    refine xidxn (h1:=by omega) (h:=fun _ _=>?_)
    refine xgetEj hc (h:=?_)
    refine xslc0 rfl (by omega) (by omega) ?_
    refine xcl (CopyBytes_spec ⟨c.2.1.p,(keepN keep f).toNat,c.2.1.c⟩ (f.b.take (keepN keep f).toNat) (by rw [List.length_take];omega)) (rds_pick 2 (fun g hg=>each_read (R:=FileR) (S:=fun c f' g=>(keepN keep f).toNat≤f'.b.length→RAr U8 ⟨c.2.1.p,(keepN keep f).toNat,c.2.1.c⟩ (f'.b.take (keepN keep f).toNat) g) (fun _ _ _ _ h s l=>(h l).mono s) (fun c' f' g h l=>(ar_cut l h.2.2).read) hg hc hf (by omega)) (fun _ _ h s=>h.mono s)) ?_
    rintro ⟨s8,_⟩ _ rfl
    refine app1 (ca1 (xchk (h:=?_)))
    refine xidxn (h1:=by omega) (h:=fun _ _=>?_)
    refine xsetEj (c.1,s8,c.2.2) hc (hj:=by decide) (hv:=rfl) (h:=xnil (xget (h:=?_)))
    have hc2:(cs'.set k (c.1,s8,c.2.2))[k]? = some (c.1,s8,c.2.2):=List.getElem?_set_self (by omega)
    refine xidxn (h1:=by simp;omega) (h:=fun _ _=>?_)
    refine xsetEj (c.1,s8,keepN keep f) hc2 (hj:=by decide) (hv:=rfl) (h:=?_)
    rw [List.set_set,wrap_succ k (by omega)]
    refine xfold [Ar U8 s8 (f.b.take (keepN keep f).toNat),Each FileR cs' gs] (Each FileR (cs'.set k (c.1,s8,keepN keep f)) (gs.set k (wakeF keep f))) (fun g hg=>file_new (c':=(c.1,s8,keepN keep f)) (f':=wakeF keep f) hc hf e1 rfl g hg) ?_
    rw [hset]
    exact xuse [Blk b (refCells m s),Ar FILE s (cs'.set k (c.1,s8,keepN keep f)),Each FileR (cs'.set k (c.1,s8,keepN keep f)) ((m.fs.map (wakeF keep)).take (k+1)++m.fs.drop (k+1))] (hK (m.fs.length - (k+1)) _ _ (by omega) ⟨k+1,_,rfl,rfl,by omega,by simpa using hl',rfl⟩)
  · have hk':k=m.fs.length:=by omega
    subst hk'
    rw [List.take_of_length_le (by simp),List.drop_length,List.append_nil]
    refine xnil (xset (h:=xnil (xset (h:=?_))))
    exact xrdev_put 0 0 0 b s cs' (wakeM m keep) hinv (fun _ h=>h) (xret rfl)
theorem append_specP {P:Program}{t ty e:TypeId}{sz by_:Nat}(hok:appOk P t e sz by_=true) {E:Enc α}(hsz:E.sz=sz) (hz:zeroOf P e=some (E.f E.zero)) {s y:Sl}{xs zs ys:List α}{F:List HP}{w:World}(hw:Sx B (Ars E s xs zs::F) w) (hy:RAr E y ys (mem w))
    (hb:(xs.length+ys.length)*by_≤140737488355328) :
    ∃ s' w' zs',(Builtin.append_ #[t,t] ty #[s.v,y.v]).run P w=.ok (Sl.v s') w'∧Sx B (Ars E s' (xs++ys) zs'::F) w'∧∀ z∈zs',z∈zs∨z=E.zero:=by
  subst hsz
  obtain ⟨p,sn,sc⟩:=s
  obtain ⟨q,n,c⟩:=y
  obtain ⟨hyn,hyr⟩:=hy
  simp only at hyn
  have hfy:=fun(w2:World) (h:mem w2=mem w)=>RArr.first (P:=P) (w:=w2) (by rw [h];exact hyr)
  have hw0:=hw
  obtain ⟨g,⟨h1,h2,p1,p2,dd,s1,s2⟩,hsub,hupd⟩:=hw
  have hxr:RAr E ⟨p,sn,sc⟩ xs (mem w):=p1.read.mono (s1.trans hsub)
  have hfx:=fun(w2:World) (h:mem w2=mem w)=>RArr.first (P:=P) (w:=w2) (by rw [h];exact hxr.2)
  have hxn:xs.length=sn:=p1.1
  have hxc:xs.length+zs.length=sc:=p1.2.1
  by_cases hroom:sn+n≤sc
  · cases p with
    | none=>
      have h0:sc=0:=by
        rcases p1.2.2 with ⟨_,h⟩ | ⟨b,o,_,_,_,_,h,_⟩
        · exact h
        · cases h
      have hys:ys=[]:=List.eq_nil_of_length_eq_zero (by omega)
      have hn0:n=0:=by omega
      subst hys hn0
      refine ⟨⟨none,sn+0,sc⟩,w,zs,append_none hok (hfy w rfl) hroom,?_,fun z h=>.inl h⟩
      rw [List.append_nil]
      exact hw0
    | some a=>
      rcases p1.2.2 with ⟨h,_⟩ | ⟨b,o,pre,post,e1,fr,hp,hbk,ho,hfr,hM⟩
      · cases h
      · simp only [Option.some.injEq] at hp
        subst hp
        have hwb:w.heap[b]? = some (.cells (pre++flat E (xs++zs)++post).toArray e1 fr):=hsub _ _ (s1 _ _ hbk)
        have hfl:=flat_length E xs
        have hfly:=flat_length E ys
        have hzl:ys.length≤zs.length:=by omega
        have hzsplit:flat E (xs++zs)=flat E xs++flat E (zs.take ys.length)++flat E (zs.drop ys.length):=by
          rw [←flat_append,←flat_append,List.append_assoc,List.take_append_drop]
        obtain ⟨w',r1,r2,r3,r4,r5,r6,r7⟩:=storeCells_blk (P:=P) b e1 fr (flat E ys) (o+sn*E.sz) 0 (pre++flat E (xs++zs)++post) w hwb (by
          have:(xs.length+ys.length)*E.sz≤(xs.length+zs.length)*E.sz:=Nat.mul_le_mul_right _ (by omega)
          rw [Nat.add_mul] at this
          simp only [List.length_append,flat_length,hfly,ho,←hxn];omega) hfr (flat_one E ys)
        have hseg:setSeg (flat E ys) (o+sn*E.sz+0) (pre++flat E (xs++zs)++post)=pre++flat E (xs++ys++zs.drop ys.length)++post:=by
          have:=setSeg_mid (flat E ys) (pre++flat E xs) (flat E (zs.take ys.length)) (flat E (zs.drop ys.length)++post) (by rw [flat_length,flat_length,List.length_take,Nat.min_eq_left hzl])
          rw [List.length_append,ho,hfl,hxn] at this
          rw [Nat.add_zero,hzsplit,flat_append,flat_append]
          simp only [List.append_assoc] at this ⊢
          exact this
        rw [hseg] at r2
        refine ⟨⟨some ⟨b,o,none⟩,sn+n,sc⟩,w',zs.drop ys.length,append_fits hok (hfy w rfl) hroom (by rw [add_none];exact r1),?_,fun z h=>.inl (List.mem_of_mem_drop h)⟩
        have hst:Sx B (Blk b (pre++flat E (xs++zs)++post)::F) w:=⟨g,⟨h1,h2,⟨e1,fr,hbk,hfr⟩,p2,dd,s1,s2⟩,hsub,hupd⟩
        have:=hst.write (cs':=pre++flat E (xs++ys++zs.drop ys.length)++post) hwb r3 r2 (by
          simp only [List.length_append,List.length_drop,flat_length]
          have:xs.length+ys.length+(zs.length - ys.length)=xs.length+zs.length:=by omega
          rw [this]) r4 r5 r6 r7
        obtain ⟨g',hg',hm',hu'⟩:=this
        exact ⟨g',star_imp (Q:=Ars E ⟨some ⟨b,o,none⟩,sn+n,sc⟩ (xs++ys) (zs.drop ys.length)) (fun q hq=>Ars.of_blk hq rfl ho (by simp;omega) (by simp;omega) hM) hg',hm',hu'⟩
  · obtain ⟨k,hk,hkM,hrun⟩:=append_grows (ty:=ty) hok hfx hfy hroom (by rw [←hxn,←hyn];exact hb) hz
    refine ⟨⟨some ⟨w.heap.size,0,none⟩,sn+n,k⟩,_,List.replicate (k - (sn+n)) E.zero,hrun,?_,fun z h=>.inr (List.eq_of_mem_replicate h)⟩
    have hd:Sx B (Ars E ⟨p,sn,sc⟩ xs zs::F) w.drew:=hw0.drew
    have ha:=(hd.tail).alloc (flat E xs++flat E ys++repL (E.f E.zero) (k - (sn+n))) e
    obtain ⟨g',hg',hm',hu'⟩:=ha
    refine ⟨g',star_imp (Q:=Ars E ⟨some ⟨w.heap.size,0,none⟩,sn+n,k⟩ (xs++ys) (List.replicate (k - (sn+n)) E.zero)) (fun q hq=>?_) hg',hm',hu'⟩
    rw [repL_flat,←flat_append,←flat_append] at hq
    exact Ars.of_blk (pre:=[]) (post:=[]) (by simpa using hq) rfl rfl (by simp;omega) (by simp;omega) hkM
theorem xapp1P {P:Program}{t ty e:TypeId}{sz by_:Nat}{z:List Value} [a:AppT P t e sz by_ z] {E:Enc α}{s:Sl}{xs zs:List α}{b:Nat}{cs:List Value}{updb:List Value→List HP}{F F':List HP}{K:Sl→WP}
    [ob:Own b As cs updb F] [o:Find (Ars E s xs zs) F F'] (x:α) (hx:E.f x=cs:=by rfl) (hsz:E.sz=sz:=by rfl) (hz:E.f E.zero=z:=by rfl) (hb:(xs.length+1)*by_≤140737488355328)
    (h:∀ s' zs',(∀ z∈zs',z∈zs∨z=E.zero)→Ent B (Ars E s' (xs++[x]) zs'::F') (K s')) :
    Ent B As (XApp P t t ty s.v (.slice (some ⟨b,0,none⟩) 1 1) K):=by
  intro w hw
  have hw1:Sx B (Blk b cs::F) w:=hw.own
  have hw2:Sx B (Ars E ⟨some ⟨b,0,none⟩,1,1⟩ [x] []::F) w:=by
    obtain ⟨g,hg,hm,hu⟩:=hw1
    exact ⟨g,star_imp (fun q hq=>blk_ar [x] 1 rfl (by simp [flat,hx]) hq) hg,hm,hu⟩
  obtain ⟨q,hq,hqs⟩:=hw2.head
  obtain ⟨s',w',zs',hr,hx',hzz⟩:=append_specP (ty:=ty) a.ok hsz (by rw [hz];exact a.zero) (hw1.tail.perm o.perm) (hq.read.mono hqs) (by simpa using hb)
  exact ⟨s',w',hr,h s' zs' hzz w' hx'⟩
theorem Names2_spec (p:Option Addr) (m:DM):Ct Pr F_device_Device_Names [.pointer p] .one [.slice] [DevObj p m] emp (fun t Bs=>∃ zs:List ByteArray,(∀ z∈zs,z=ByteArray.empty)∧Bs=[DevObj p m,Ars Cf.ST t.1 (m.fs.map (·.nm)) zs]):=by
  refine spec1 c_device_Device_Names fun B _=>?_
  unfold device_Device_Names
  refine xdev 0 fun hi b s cs hp sf hsn=>?_
  subst hp
  have hlen:=hi.len
  have hcl:=sf.len
  refine xnil (xget (h:=xadd (A:=Ars Cf.ST ⟨none,0,0⟩ [] []) ⟨rfl,rfl,.inl ⟨rfl,rfl⟩⟩ ?_))
  refine xloop2 (fun n o i As=>∃ (k:Nat) (zs:List ByteArray),i=(k:Int)∧n=m.fs.length - k∧k≤m.fs.length∧(∀ z∈zs,z=ByteArray.empty)∧As=[Ars Cf.ST o ((m.fs.map fun f:DF=>f.nm).take k) zs,Blk b (devCells m s),Ar FILE s cs,Each FileR cs m.fs]) m.fs.length ⟨0,[],rfl,rfl,by omega,by simp,rfl⟩ ?_
  rintro n o _ _ K ⟨k,zs,rfl,rfl,hk,hzs,rfl⟩ hK
  refine xif_dec (fun h=>?_) (fun h=>?_)
  · have hf:=List.getElem?_eq_getElem (l:=m.fs) (i:=k) (by omega)
    have hc:=List.getElem?_eq_getElem (l:=cs) (i:=k) (by omega)
    obtain ⟨h1,_⟩:=sf.each _ _ _ hc hf
    refine xidxn (h1:=by omega) (h:=fun _ _=>?_)
    refine xgetE hc (h:=?_)
    refine xgetEj hc (h:=?_)
    refine xgetEj hc (h:=xnew fun b1=>xset (h:=xset (h:=xset (h:=xget (h:=xnew fun b2=>?_)))))
    refine xapp1P (E:=Cf.ST) (zs:=zs) (xs:=(m.fs.map fun f:DF=>f.nm).take k) cs[k].1 (hb:=by simp;omega) (h:=fun s' zs' hz'=>?_)
    rw [wrap_succ k (by omega)]
    refine xdrop 1 (hK (m.fs.length - (k+1)) _ _ _ (by omega) ⟨k+1,zs',rfl,rfl,by omega,fun z hz=>?_,?_⟩)
    · rcases hz' z hz with h | h
      · exact hzs z h
      · exact h
    · rw [List.take_add_one,List.getElem?_map,hf,h1];rfl
  · have:k=m.fs.length:=by omega
    subst this
    rw [List.take_of_length_le (by simp)]
    exact xdev_back b s cs hi (xret ⟨zs,hzs,rfl⟩)
theorem SpoilTexts_spec (l:Sl) (xs zs:List ByteArray) (hx:∀ x∈xs++zs,x.size≤4096):Ct Pr F_kit_SpoilTexts [l.v] (.tup []) [] [Ars Cf.ST l xs zs] emp (fun t Bs=>Bs=[]):=by
  refine spec0 c_kit_SpoilTexts fun B _=>?_
  unfold kit_SpoilTexts
  refine xslc0 rfl (by omega) (by omega) ?_
  rw [Int.toNat_natCast]
  refine xfact 0 (fun g hg=>(⟨hg.2.1,hg.cap_le⟩:xs.length+zs.length=l.c∧_)) fun hM=>?_
  obtain ⟨h2,hM⟩:=hM
  refine xshift l.c (xs++zs) [] (by simp) (by simpa using h2) (xar ?_)
  refine xloop1 (fun n i As=>∃ (k:Nat) (ys:List ByteArray),i=(k:Int)∧n=l.c - k∧k≤l.c∧ys.length=l.c∧(∀ y∈ys.drop k,y.size≤4096)∧As=[Ar Cf.ST ⟨l.p,l.c,l.c⟩ ys]) l.c ⟨0,xs++zs,rfl,rfl,by omega,by simpa using h2,hx,rfl⟩ ?_
  rintro n _ _ K ⟨k,ys,rfl,rfl,hk,hl,hys,rfl⟩ hK
  refine xif_dec (fun h=>?_) (fun h=>?_)
  · simp only at h
    have hkl:k<ys.length:=by omega
    have hy:=List.getElem?_eq_getElem hkl
    have hsz:ys[k].size≤4096:=hys _ (by rw [List.drop_eq_getElem_cons hkl];exact List.mem_cons_self)
    generalize ys[k]=y at *
    refine xidxn (h1:=by omega) (h:=fun _ _=>?_)
    refine xgetE hy (h:=?_)
    have h1:(⟨#[126]⟩:ByteArray).size=1:=rfl
    refine xasrt (by rw [h1];omega) ?_
    refine xidxn (h1:=by omega) (h:=fun _ _=>?_)
    refine xsetE (y++⟨#[126]⟩) hy (hv:=rfl) (h:=?_)
    rw [wrap_succ k (by omega)]
    refine hK (l.c - (k+1)) _ _ (by omega) ⟨k+1,_,rfl,rfl,by omega,by simpa using hl,?_,rfl⟩
    rw [List.drop_set_of_lt (by omega)]
    intro z hz
    refine hys z ?_
    rw [List.drop_eq_getElem_cons hkl]
    exact List.mem_cons_of_mem _ hz
  · exact xdrop 0 (xret rfl)
theorem dev_some {p:Option Addr}{m:DM}{g:Frag}(h:DevObj p m g):∃ b,p=some ⟨b,0,none⟩:=by
  obtain ⟨_,b,_,_,h,_⟩:=h
  exact ⟨b,h⟩
theorem body_le {m:DM}(hi:DInv m) (nm:ByteArray):(readM m nm).1.length≤16777216:=by
  unfold readM
  cases ht:thereL m.fs nm.toList with
  | false=>simp
  | true=>
    obtain ⟨hf,_⟩:=getD_there (d:=⟨nm,[],0⟩) ht
    have h1:=usedN_erase hf
    have h2:=hi.used
    have h3:=hi.room
    show (m.fs.getD (findL m.fs nm.toList) ⟨nm,[],0⟩).b.length≤_
    omega
theorem Looks_spec (p q:Option Addr) (m:DM):Ct Pr F_law12_Looks [.pointer p,.pointer q] .one [.bool] [DevObj p m,RefDev q m] emp (fun t Bs=>t.1=true∧Bs=[DevObj p m,RefDev q m]):=by
  refine spec1 c_law12_Looks fun B _=>?_
  unfold law12_Looks
  refine xfact 0 (fun g hg=>(⟨hg.1,dev_some hg⟩:DInv m∧∃ b,p=some ⟨b,0,none⟩)) fun hi=>?_
  obtain ⟨hi,b,rfl⟩:=hi
  have hlen:=hi.len
  refine xcl (Names2_spec (some ⟨b,0,none⟩) m) rdb ?_
  rintro ⟨s,_⟩ _ ⟨zs,hzs,rfl⟩
  refine app2 (ca1 ?_)
  refine xcl (rNames_spec q m) rdb ?_
  rintro ⟨s1,_⟩ _ rfl
  refine app2 (ca1 ?_)
  refine xlen s1 fun h1n _=>?_
  simp only [List.length_map] at h1n
  refine xcl (SameTexts_spec s s1 (m.fs.map (·.nm)) (m.fs.map (·.nm)) (by simp;omega)) (rds_and rdb rdb) ?_
  rintro ⟨c,_⟩ _ ⟨hc,rfl⟩
  obtain rfl:c=true:=by simpa using hc
  refine app0 (ca1 (xjoin (xiff rfl ?_)))
  refine xcl (Used_spec (some ⟨b,0,none⟩) m) rdb ?_
  rintro ⟨r,_⟩ _ ⟨hr,rfl⟩
  simp only at hr
  subst hr
  refine app1 (ca1 ?_)
  refine xcl (rUsed_spec q m) rdb ?_
  rintro ⟨r,_⟩ _ ⟨hr,rfl⟩
  simp only at hr
  subst hr
  refine app1 (ca1 (xjoin (xiff (by simp) ?_)))
  refine xcl (Free_spec (some ⟨b,0,none⟩) m) rdb ?_
  rintro ⟨r,_⟩ _ ⟨hr,rfl⟩
  simp only at hr
  subst hr
  refine app1 (ca1 ?_)
  refine xcl (rFree_spec q m) rdb ?_
  rintro ⟨r,_⟩ _ ⟨hr,rfl⟩
  simp only at hr
  subst hr
  refine app1 (ca1 (xjoin (xiff (by simp) (xnil ?_))))
  refine xcl (Down_spec (some ⟨b,0,none⟩) m) rdb ?_
  rintro ⟨r,_⟩ _ ⟨hr,rfl⟩
  simp only at hr
  subst hr
  refine app1 (ca1 ?_)
  refine xcl (rDown_spec q m) rdb ?_
  rintro ⟨r,_⟩ _ ⟨hr,rfl⟩
  simp only at hr
  subst hr
  refine app1 (ca1 (xiff (by simp) ?_))
  refine xcl (SpoilTexts_spec s (m.fs.map (·.nm)) zs (fun x hx=>?_)) rdb ?_
  · rcases List.mem_append.1 hx with h | h
    · obtain ⟨f,hf,rfl⟩:=List.mem_map.1 h
      have:=hi.names f hf
      simp [namedB] at this
      omega
    · rw [hzs x h];decide
  rintro _ _ rfl
  refine app0 (ca0 ?_)
  refine xuse [DevObj (some ⟨b,0,none⟩) m,RefDev q m,Ar Cf.ST s1 (m.fs.map (·.nm))] ?_
  refine xloop1 (fun n i As=>∃ (k:Nat),i=(k:Int)∧n=m.fs.length - k∧k≤m.fs.length∧As=[DevObj (some ⟨b,0,none⟩) m,RefDev q m,Ar Cf.ST s1 (m.fs.map (·.nm))]) m.fs.length ⟨0,rfl,rfl,by omega,rfl⟩ ?_
  rintro n _ _ K ⟨k,rfl,rfl,hk,rfl⟩ hK
  refine xif_dec (fun h=>?_) (fun h=>?_)
  · have hf:=List.getElem?_eq_getElem (l:=m.fs) (i:=k) (by omega)
    have hrd:=read_at hi.sorted hf
    have hbl:=body_le hi m.fs[k].nm
    have hn:(m.fs.map fun f:DF=>f.nm)[k]? = some m.fs[k].nm:=by rw [List.getElem?_map,hf];rfl
    rw [hrd] at hbl
    simp only at hbl
    generalize m.fs[k]=f at *
    refine xidxn (h1:=by simp;omega) (h:=fun _ _=>?_)
    refine xgetE hn (h:=?_)
    refine xcl (Read_spec (some ⟨b,0,none⟩) m f.nm) rdb ?_
    rw [hrd]
    rintro ⟨s2,r4,_⟩ _ ⟨h4,rfl⟩
    obtain rfl:r4=0:=h4
    refine app2 (ca2 ?_)
    refine xidxn (h1:=by simp;omega) (h:=fun _ _=>?_)
    refine xgetE hn (h:=?_)
    refine xcl (Read_spec (some ⟨b,0,none⟩) m f.nm) rdb ?_
    rw [hrd]
    rintro ⟨s3,r5,_⟩ _ ⟨h5,rfl⟩
    obtain rfl:r5=0:=h5
    refine app2 (ca2 ?_)
    refine xidxn (h1:=by simp;omega) (h:=fun _ _=>?_)
    refine xgetE hn (h:=?_)
    refine xcl (rRead_spec q m f.nm) rdb ?_
    rw [hrd]
    rintro ⟨s4,r6,_⟩ _ ⟨h6,rfl⟩
    obtain rfl:r6=0:=h6
    refine app2 (ca2 (xjoin (xiff rfl ?_)))
    refine xcl (SameBytes_spec s2 s4 f.b f.b (by omega)) (rds_and rdb rdb) ?_
    rintro ⟨c,_⟩ _ ⟨hc,rfl⟩
    obtain rfl:c=true:=by simpa using hc
    refine app0 (ca1 (xjoin (xiff rfl ?_)))
    refine xcl (SameBytes_spec s3 s4 f.b f.b (by omega)) (rds_and rdb rdb) ?_
    rintro ⟨c,_⟩ _ ⟨hc,rfl⟩
    obtain rfl:c=true:=by simpa using hc
    refine app0 (ca1 (xiff rfl ?_))
    refine xcl (SpoilBytes_spec s2 f.b) rdb ?_
    rintro _ _ rfl
    refine app0 (ca0 ?_)
    refine xcl (SameBytes_spec s3 s4 f.b f.b (by omega)) (rds_and rdb rdb) ?_
    rintro ⟨c,_⟩ _ ⟨hc,rfl⟩
    obtain rfl:c=true:=by simpa using hc
    refine app0 (ca1 (xiff rfl ?_))
    rw [wrap_succ k (by omega)]
    exact xuse [DevObj (some ⟨b,0,none⟩) m,RefDev q m,Ar Cf.ST s1 (m.fs.map (·.nm))] (hK (m.fs.length - (k+1)) _ _ (by omega) ⟨k+1,rfl,rfl,by omega,rfl⟩)
  · exact xuse [DevObj (some ⟨b,0,none⟩) m,RefDev q m] (xret ⟨rfl,rfl⟩)
end Go.Cx
