/-
  Bytes and numbers as words.
  A device of files, as a law of lists.
  CRC-32, frames, numbers of eight bytes, as functions of lists.
  A device's files by their names: what each call makes of them.
  A log in segments, as functions of lists: what its calls come to.
  The plain law of a log in segments: what lies on the device, what is opened.
  The plain law of a log in segments: opened, appended to, synced, the power off.
  The plain law of a log in segments: Sync and Append.
  A log in segments that is opened: what is so of it, whatever lies on the device.
  The plain law of a log in segments: one step; what is got.
  The plain law of a log in segments: files beside it.
  A tree of keys as its pages: what stands in it in order, what a put and a split make of it, what a range tells.
  append of a string to bytes of one's own.
  copy of a string into bytes of one's own.
-/
import Derived.Test.YtffoldlhonbafaaGreatDoorA3
import Derived.Laws.Strings
import Derived.Lib.Atoi
import Derived.Lib.ItoaNum
import Derived.Laws.BitsAllLaws
namespace Go.Cx
open Go Go.Cf
set_option linter.unusedVariables false
set_option maxRecDepth 100000
def BA (l:List UInt8):ByteArray:=⟨l.toArray⟩
theorem BA_app (a b:List UInt8):BA a++BA b=BA (a++b):=by
  apply ByteArray.ext;simp [BA]
theorem BA_size (a:List UInt8):(BA a).size=a.length:=by simp [BA,ByteArray.size]
theorem BA_list (l:List UInt8):(BA l).data.toList=l:=by simp [BA]
theorem BA_toList (l:List UInt8):(BA l).toList=l:=by rw [ByteArray.toList_eq,BA_list]
theorem empty_list:ByteArray.empty.toList=[]:=by decide +kernel
theorem dec_small {u:Nat}(h:u<10):Lib.decDigits u=[UInt8.ofNat (48+u)]:=by rw [Lib.decDigits,dif_pos h]
theorem dec_big {u:Nat}(h:¬ u<10):Lib.decDigits u=Lib.decDigits (u / 10)++[UInt8.ofNat (48+u % 10)]:=by rw [Lib.decDigits,dif_neg h]
theorem dec_len:∀ (k u:Nat),u<10 ^ (k+1)→(Lib.decDigits u).length≤k+1
  | k,u,h=>by
    by_cases hu:u<10
    · rw [dec_small hu];simp
    · cases k with
      | zero=>simp at h;omega
      | succ k=>
        rw [dec_big hu,List.length_append,List.length_singleton]
        have:=dec_len k (u / 10) (by rw [Nat.pow_succ] at h;omega)
        omega
theorem itoa_len {n:Int}(h0 : -9223372036854775808≤n) (h1:n≤9223372036854775807):(Lib.itoa n).length≤21:=by
  unfold Lib.itoa
  split
  · have:=dec_len 19 n.natAbs (by simp;omega)
    simp;omega
  · have:=dec_len 19 n.toNat (by simp;omega)
    omega
def isDig (b:UInt8):Bool:=decide (48≤b.toNat)&&decide (b.toNat≤57)
def decV (l:List UInt8):Nat:=l.foldl (fun a b=>a*10+(b.toNat - 48)) 0
theorem decV_snoc (l:List UInt8) (b:UInt8):decV (l++[b])=decV l*10+(b.toNat - 48):=by
  unfold decV;rw [List.foldl_append];rfl
theorem dec_facts:∀ (n u:Nat),u≤n→Lib.decDigits u≠[]∧(Lib.decDigits u).all isDig=true∧decV (Lib.decDigits u)=u∧((Lib.decDigits u).length>1→(Lib.decDigits u)[0]?≠some 48)∧(1≤u→(Lib.decDigits u)[0]?≠some 48)
  | n,u,hu=>by
    have hdig:∀ k,k<10→isDig (UInt8.ofNat (48+k))=true∧(UInt8.ofNat (48+k)).toNat=48+k:=by
      intro k hk
      have:(UInt8.ofNat (48+k)).toNat=48+k:=by rw [UInt8.toNat_ofNat'];omega
      exact ⟨by simp only [isDig,this,Bool.and_eq_true,decide_eq_true_eq];omega,this⟩
    by_cases h:u<10
    · rw [dec_small h]
      obtain ⟨h1,h2⟩:=hdig u h
      refine ⟨by simp,by simp only [List.all_cons,List.all_nil,Bool.and_true];exact h1,by simp only [decV,List.foldl_cons,List.foldl_nil,h2];omega,by simp,fun h0 e=>?_⟩
      have e:=Option.some.inj e
      have:=congrArg UInt8.toNat e
      rw [h2] at this
      simp at this;omega
    · match n with
      | 0=>omega
      | n+1=>
        obtain ⟨i1,i2,i3,i4,i5⟩:=dec_facts n (u / 10) (by omega)
        obtain ⟨h1,h2⟩:=hdig (u % 10) (by omega)
        rw [dec_big h]
        refine ⟨by simp,by rw [List.all_append,i2];simp only [List.all_cons,List.all_nil,Bool.and_true,Bool.true_and];exact h1,by rw [decV_snoc,i3,h2];omega,fun _=>?_,fun _=>?_⟩
        all_goals
          have hlen:0<(Lib.decDigits (u / 10)).length:=List.length_pos_iff.2 i1
          rw [List.getElem?_append_left hlen]
          exact i5 (by omega)
end Go.Cx
namespace Go.Cx
open Go Go.Cf
set_option linter.unusedVariables false
set_option maxRecDepth 100000
abbrev Key:=List UInt8
abbrev lt (a b:Key):Bool:=Op.bytesLess a b
theorem u8_total (a b:UInt8) (h1:¬ a<b) (h2:¬ b<a):a=b:=by
  have h1':¬ a.toNat<b.toNat:=fun h=>h1 (UInt8.lt_iff_toNat_lt.2 h)
  have h2':¬ b.toNat<a.toNat:=fun h=>h2 (UInt8.lt_iff_toNat_lt.2 h)
  exact UInt8.toNat_inj.1 (by omega)
theorem lt_irrefl:∀ a:Key,lt a a=false:=by
  intro a
  induction a with
  | nil=>rfl
  | cons x a ih=>
    have:¬ x<x:=fun h=>by have:=UInt8.lt_iff_toNat_lt.1 h;omega
    simp [lt,Op.bytesLess,this,ih]
theorem lt_trans:∀ {a b c:Key},lt a b=true→lt b c=true→lt a c=true:=by
  intro a
  induction a with
  | nil=>
    intro b c h1 h2
    cases c with
    | nil=>cases b<;>simp [lt,Op.bytesLess] at h2
    | cons=>rfl
  | cons x a ih=>
    intro b c h1 h2
    cases b with
    | nil=>simp [lt,Op.bytesLess] at h1
    | cons y b=>
      cases c with
      | nil=>simp [lt,Op.bytesLess] at h2
      | cons z c=>
        simp only [lt,Op.bytesLess,Bool.or_eq_true,decide_eq_true_eq,Bool.and_eq_true,beq_iff_eq] at h1 h2 ⊢
        rcases h1 with h1 | ⟨rfl,h1⟩
        · rcases h2 with h2 | ⟨rfl,h2⟩
          · exact .inl (UInt8.lt_iff_toNat_lt.2 (Nat.lt_trans (UInt8.lt_iff_toNat_lt.1 h1) (UInt8.lt_iff_toNat_lt.1 h2)))
          · exact .inl h1
        · rcases h2 with h2 | ⟨rfl,h2⟩
          · exact .inl h2
          · exact .inr ⟨rfl,ih h1 h2⟩
theorem lt_total:∀ {a b:Key},lt a b=false→lt b a=false→a=b:=by
  intro a
  induction a with
  | nil=>intro b h1 _;cases b with
    | nil=>rfl
    | cons=>simp [lt,Op.bytesLess] at h1
  | cons x a ih=>
    intro b h1 h2
    cases b with
    | nil=>simp [lt,Op.bytesLess] at h2
    | cons y b=>
      simp only [lt,Op.bytesLess,Bool.or_eq_false_iff,decide_eq_false_iff_not,Bool.and_eq_false_iff,beq_eq_false_iff_ne] at h1 h2
      have e:=u8_total x y h1.1 h2.1
      subst e
      rcases h1.2 with h | h
      · exact absurd rfl h
      · rcases h2.2 with h' | h'
        · exact absurd rfl h'
        · rw [ih h h']
theorem lt_asymm {a b:Key}(h:lt a b=true):lt b a=false:=by
  cases hb:lt b a with
  | false=>rfl
  | true=>have:=lt_trans h hb;rw [lt_irrefl] at this;cases this
theorem ba_toList_inj {x y:ByteArray}(h:x.toList=y.toList):x=y:=by
  rw [ByteArray.toList_eq,ByteArray.toList_eq] at h
  cases x;cases y
  simpa using h
structure DF where
  nm:ByteArray
  b:List UInt8
  sy:Int
abbrev DF.key (f:DF):Key:=f.nm.toList
structure DM where
  armed:Bool
  down:Bool
  left:Int
  room:Int
  fs:List DF
def usedN (fs:List DF):Nat:=(fs.map fun f=>f.b.length).sum
def namedB (s:ByteArray):Bool:=decide ((s.size:Int)≥1)&&decide ((s.size:Int)≤16)
def Sorted (fs:List DF):Prop:=fs.Pairwise fun f g=>lt f.key g.key=true
def findL (fs:List DF) (k:Key):Nat:=(fs.takeWhile fun f=>lt f.key k).length
def thereL (fs:List DF) (k:Key):Bool:=match fs[findL fs k]? with
  | some f=>f.key == k
  | none=>false
theorem findL_le (fs:List DF) (k:Key):findL fs k≤fs.length:=(List.takeWhile_sublist _).length_le
theorem findL_eq {fs:List DF}{k:Key}{i:Nat}(hi:i≤fs.length) (h1:∀ t f,t<i→fs[t]? = some f→lt f.key k=true) (h2:∀ f,fs[i]? = some f→lt f.key k=false):findL fs k=i:=by
  induction fs generalizing i with
  | nil=>simp at hi;subst hi;rfl
  | cons f fs ih=>
    cases i with
    | zero=>
      have:=h2 f rfl
      simp [findL,this]
    | succ i=>
      have h:=h1 0 f (by omega) rfl
      have:=ih (i:=i) (by simpa using hi) (fun t g ht hg=>h1 (t+1) g (by omega) (by simpa using hg)) (fun g hg=>h2 g (by simpa using hg))
      simp only [findL,List.takeWhile_cons,h,if_true,List.length_cons] at this ⊢
      omega
theorem findL_lt {fs:List DF}{k:Key}:∀ {t:Nat}{f:DF},t<findL fs k→fs[t]? = some f→lt f.key k=true:=by
  induction fs with
  | nil=>intro t f _ h;simp at h
  | cons g fs ih=>
    intro t f ht hf
    cases hg:lt g.key k with
    | false=>simp [findL,hg] at ht
    | true=>
      cases t with
      | zero=>simp at hf;subst hf;exact hg
      | succ t=>
        refine ih (t:=t) ?_ (by simpa using hf)
        simp only [findL,List.takeWhile_cons,hg,if_true,List.length_cons] at ht
        simp only [findL];omega
theorem findL_at {fs:List DF}{k:Key}{f:DF}(h:fs[findL fs k]? = some f):lt f.key k=false:=by
  induction fs with
  | nil=>simp at h
  | cons g fs ih=>
    cases hg:lt g.key k with
    | false=>simp [findL,hg] at h;subst h;exact hg
    | true=>
      refine ih ?_
      simpa [findL,hg] using h
theorem Sorted.get {fs:List DF}(hs:Sorted fs) {i j:Nat}{f g:DF}(hij:i<j) (hf:fs[i]? = some f) (hg:fs[j]? = some g):lt f.key g.key=true:=by
  obtain ⟨h1,rfl⟩:=List.getElem?_eq_some_iff.1 hf
  obtain ⟨h2,rfl⟩:=List.getElem?_eq_some_iff.1 hg
  exact List.pairwise_iff_getElem.1 hs i j h1 h2 hij
theorem findL_ge {fs:List DF}(hs:Sorted fs) {k:Key}{t:Nat}{f:DF}(ht:findL fs k≤t) (hf:fs[t]? = some f):lt f.key k=false:=by
  have hlt:t<fs.length:=(List.getElem?_eq_some_iff.1 hf).1
  have hg:=List.getElem?_eq_getElem (l:=fs) (i:=findL fs k) (by omega)
  have h0:=findL_at hg
  rcases Nat.lt_or_ge (findL fs k) t with h | h
  · have h1:=hs.get h hg hf
    cases hk:lt f.key k with
    | false=>rfl
    | true=>have:=lt_trans h1 hk;rw [h0] at this;cases this
  · obtain rfl:t=findL fs k:=by omega
    rw [hg] at hf;cases hf;exact h0
theorem find_unique {fs:List DF}(hs:Sorted fs) {k:Key}{t:Nat}{f:DF}(hf:fs[t]? = some f) (hk:f.key=k):findL fs k=t∧thereL fs k=true:=by
  have e:findL fs k=t:=by
    refine findL_eq (Nat.le_of_lt (List.getElem?_eq_some_iff.1 hf).1) (fun s g hs' hg=>?_) (fun g hg=>?_)
    · rw [←hk];exact hs.get hs' hg hf
    · rw [hf] at hg;cases hg;rw [←hk];exact lt_irrefl _
  refine ⟨e,?_⟩
  unfold thereL
  rw [e,hf]
  simp [hk]
theorem there_get {fs:List DF}{k:Key}(h:thereL fs k=true):∃ f,fs[findL fs k]? = some f∧f.key=k:=by
  unfold thereL at h
  split at h
  · rename_i f hf;exact ⟨f,hf,by simpa using h⟩
  · cases h
theorem not_there {fs:List DF}(hs:Sorted fs) {k:Key}(h:thereL fs k=false):∀ f∈fs,f.key≠k:=by
  intro f hf hk
  obtain ⟨t,ht,rfl⟩:=List.getElem_of_mem hf
  have:=(find_unique hs (List.getElem?_eq_getElem ht) hk).2
  rw [h] at this;cases this
def insL (fs:List DF) (i:Nat) (f:DF):List DF:=fs.take i++f::fs.drop i
def spendM (m:DM):DM×Bool:=if m.armed&&m.left == 0 then ({ m with down:=true },false) else if m.armed then ({ m with left:=m.left - 1 },true) else (m,true)
def appendM (m:DM) (nm:ByteArray) (b:List UInt8):DM×Int:=
  if !(namedB nm) then (m,8)
  else if m.down then (m,10)
  else if (!(thereL m.fs nm.toList)&&decide ((m.fs.length:Int)≥64))||decide ((b.length:Int)>m.room - usedN m.fs) then (m,9)
  else if !(spendM m).2 then ((spendM m).1,10)
  else
    let i:=findL m.fs nm.toList
    let fs:=if thereL m.fs nm.toList then m.fs else insL m.fs i ⟨nm,[],0⟩
    let f:=fs.getD i ⟨nm,[],0⟩
    ({ (spendM m).1 with fs:=fs.set i { f with b:=f.b++b } },0)
def onFile (m:DM) (nm:ByteArray) (g:Nat→DF→DM→DM×Int):DM×Int:=
  if m.down then (m,10)
  else if !(thereL m.fs nm.toList) then (m,6)
  else g (findL m.fs nm.toList) (m.fs.getD (findL m.fs nm.toList) ⟨nm,[],0⟩) m
def spent (m:DM) (g:DM→DM):DM×Int:=if !(spendM m).2 then ((spendM m).1,10) else (g (spendM m).1,0)
def syncM (m:DM) (nm:ByteArray):DM×Int:=onFile m nm fun i f m=>spent m fun m=>{ m with fs:=m.fs.set i { f with sy:=f.b.length } }
def truncM (m:DM) (nm:ByteArray) (n:Int):DM×Int:=onFile m nm fun i f m=>if n<0∨n>f.b.length then (m,3) else spent m fun m=>{ m with fs:=m.fs.set i { f with b:=f.b.take n.toNat,sy:=if n<f.sy then n else f.sy } }
def removeM (m:DM) (nm:ByteArray):DM×Int:=onFile m nm fun i f m=>spent m fun m=>{ m with fs:=m.fs.eraseIdx i }
def moveL (fs:List DF) (i:Nat) (f:DF) (to:ByteArray):List DF:=
  let es:=fs.eraseIdx i
  let k:=findL es to.toList
  if thereL es to.toList then es.set k { f with nm:=to } else insL es k { f with nm:=to }
def renameM (m:DM) (nm to:ByteArray):DM×Int:=if !(namedB to) then (m,8) else onFile m nm fun i f m=>spent m fun m=>{ m with fs:=moveL m.fs i f to }
def readM (m:DM) (nm:ByteArray):List UInt8×Int:=if !(thereL m.fs nm.toList) then ([],6) else ((m.fs.getD (findL m.fs nm.toList) ⟨nm,[],0⟩).b,0)
def armM (m:DM) (n:Int):DM:={ m with armed:=decide (n≥0),left:=n }
def keepN (keep:Int) (f:DF):Int:=f.sy+(if (f.b.length:Int) - f.sy<(if 0>keep then 0 else keep) then (f.b.length:Int) - f.sy else (if 0>keep then 0 else keep))
def wakeF (keep:Int) (f:DF):DF:={ f with b:=f.b.take (keepN keep f).toNat,sy:=keepN keep f }
def wakeM (m:DM) (keep:Int):DM:={ armed:=false,down:=false,left:=0,room:=m.room,fs:=m.fs.map (wakeF keep) }
structure DInv (m:DM):Prop where
  sorted:Sorted m.fs
  names:∀ f∈m.fs,namedB f.nm=true
  syn:∀ f∈m.fs,0≤f.sy∧f.sy≤f.b.length
  used:(usedN m.fs:Int)≤m.room
  room:0≤m.room∧m.room≤16777216
  len:m.fs.length≤64
  left:i64 m.left∧(m.armed=true→0≤m.left)
end Go.Cx
namespace Go.Cx
open Go Go.Cf
set_option linter.unusedVariables false
theorem usedN_set {fs:List DF}{i:Nat}{f g:DF}(h:fs[i]? = some f):usedN (fs.set i g)+f.b.length=usedN fs+g.b.length:=by
  induction fs generalizing i with
  | nil=>simp at h
  | cons x fs ih=>
    cases i with
    | zero=>simp at h;subst h;simp [usedN];omega
    | succ i=>
      have:=ih (i:=i) (by simpa using h)
      simp [usedN] at this ⊢;omega
theorem usedN_erase {fs:List DF}{i:Nat}{f:DF}(h:fs[i]? = some f):usedN (fs.eraseIdx i)+f.b.length=usedN fs:=by
  induction fs generalizing i with
  | nil=>simp at h
  | cons x fs ih=>
    cases i with
    | zero=>simp at h;subst h;simp [usedN];omega
    | succ i=>
      have:=ih (i:=i) (by simpa using h)
      simp [usedN] at this ⊢;omega
theorem usedN_ins (fs:List DF) (i:Nat) (g:DF):usedN (insL fs i g)=usedN fs+g.b.length:=by
  have e:usedN fs=usedN (fs.take i)+usedN (fs.drop i):=by
    conv=>lhs;rw [←List.take_append_drop i fs]
    unfold usedN
    rw [List.map_append,List.sum_append]
  rw [e]
  simp [usedN,insL];omega
theorem mem_insL {fs:List DF}{i:Nat}{g x:DF}(h:x∈insL fs i g):x=g∨x∈fs:=by
  rcases List.mem_append.1 h with h | h
  · exact .inr (List.mem_of_mem_take h)
  · rcases List.mem_cons.1 h with h | h
    · exact .inl h
    · exact .inr (List.mem_of_mem_drop h)
theorem insL_length (fs:List DF) (i:Nat) (g:DF) (h:i≤fs.length):(insL fs i g).length=fs.length+1:=by
  simp [insL];omega
theorem insL_get (fs:List DF) (i:Nat) (g:DF) (h:i≤fs.length):(insL fs i g)[i]? = some g:=by
  unfold insL
  rw [List.getElem?_append_right (by simp;omega)]
  simp [Nat.min_eq_left h]
theorem sorted_keys {fs gs:List DF}(h:gs.map DF.key=fs.map DF.key) (hs:Sorted fs):Sorted gs:=by
  unfold Sorted at hs ⊢
  rw [←List.pairwise_map (f:=DF.key) (R:=fun a b=>lt a b=true)] at hs ⊢
  rw [h];exact hs
theorem sorted_set {fs:List DF}{i:Nat}{f g:DF}(h:fs[i]? = some f) (hk:g.key=f.key) (hs:Sorted fs):Sorted (fs.set i g):=by
  refine sorted_keys ?_ hs
  rw [List.map_set,hk]
  apply List.ext_getElem?
  intro j
  by_cases e:i=j
  · subst e
    rw [List.getElem?_set_self (by simpa using (List.getElem?_eq_some_iff.1 h).1),List.getElem?_map,h];rfl
  · rw [List.getElem?_set_ne e]
theorem sorted_erase {fs:List DF}{i:Nat}(hs:Sorted fs):Sorted (fs.eraseIdx i):=List.Pairwise.sublist (List.eraseIdx_sublist _ _) hs
theorem sorted_ins {fs:List DF}{g:DF}(hs:Sorted fs) (hn:thereL fs g.key=false):Sorted (insL fs (findL fs g.key) g):=by
  have h0:=not_there hs hn
  have e:fs=fs.take (findL fs g.key)++fs.drop (findL fs g.key):=(List.take_append_drop _ _).symm
  have hs':=hs
  unfold Sorted at hs'
  rw [e,List.pairwise_append] at hs'
  have hlo:∀ x∈fs.take (findL fs g.key),lt x.key g.key=true:=fun x hx=>by
    obtain ⟨j,hj,rfl⟩:=List.getElem_of_mem hx
    have hj':j<findL fs g.key∧j<fs.length:=by simp at hj;omega
    rw [List.getElem_take]
    exact findL_lt hj'.1 (List.getElem?_eq_getElem hj'.2)
  have hhi:∀ x∈fs.drop (findL fs g.key),lt g.key x.key=true:=fun x hx=>by
    have hx':=List.mem_of_mem_drop hx
    obtain ⟨j,hj,rfl⟩:=List.getElem_of_mem hx
    have hj':findL fs g.key+j<fs.length:=by simp at hj;omega
    rw [List.getElem_drop] at hx' ⊢
    have h1:=findL_ge hs (Nat.le_add_right _ j) (List.getElem?_eq_getElem hj')
    cases h2:lt g.key fs[findL fs g.key+j].key with
    | true=>rfl
    | false=>exact absurd (lt_total h1 h2) (h0 _ hx')
  unfold Sorted insL
  rw [List.pairwise_append]
  refine ⟨hs'.1,List.pairwise_cons.2 ⟨hhi,hs'.2.1⟩,fun x hx y hy=>?_⟩
  rcases List.mem_cons.1 hy with rfl | hy
  · exact hlo x hx
  · exact hs'.2.2 x hx y hy
theorem spendM_fs (m:DM):(spendM m).1.fs=m.fs∧(spendM m).1.room=m.room:=by
  unfold spendM
  split
  · exact ⟨rfl,rfl⟩
  · split<;>exact ⟨rfl,rfl⟩
theorem DInv.spend {m:DM}(h:DInv m):DInv (spendM m).1:=by
  obtain ⟨h1,h2,h3,h4,h5,h6,h7,h8⟩:=h
  unfold spendM
  split
  · exact ⟨h1,h2,h3,h4,h5,h6,h7,h8⟩
  · rename_i hne
    split
    · rename_i ha
      refine ⟨h1,h2,h3,h4,h5,h6,?_,fun _=>?_⟩
      · have:=h8 ha
        unfold i64 at h7 ⊢
        simp only;omega
      · have:=h8 ha
        have:¬ m.left=0:=fun e=>hne (by simp [ha,e])
        simp only;omega
    · exact ⟨h1,h2,h3,h4,h5,h6,h7,h8⟩
theorem DInv.files {m:DM}(h:DInv m) {fs:List DF}(hs:Sorted fs) (hf:∀ f∈fs,f∈m.fs∨(namedB f.nm=true∧0≤f.sy∧f.sy≤f.b.length)) (hu:(usedN fs:Int)≤m.room) (hl:fs.length≤64):DInv { m with fs:=fs }:=
  ⟨hs,fun f hm=>(hf f hm).elim (fun x=>h.names f x) (fun x=>x.1),fun f hm=>(hf f hm).elim (fun x=>h.syn f x) (fun x=>x.2),hu,h.room,hl,h.left⟩
theorem getD_there {fs:List DF}{k:Key}{d:DF}(h:thereL fs k=true):fs[findL fs k]? = some (fs.getD (findL fs k) d)∧(fs.getD (findL fs k) d).key=k:=by
  obtain ⟨f,hf,hk⟩:=there_get h
  have:fs.getD (findL fs k) d=f:=by simp [hf]
  rw [this]
  exact ⟨hf,hk⟩
theorem onFile_inv {m:DM}{nm:ByteArray}{g:Nat→DF→DM→DM×Int}(h:DInv m) (hg:∀ i f,m.fs[i]? = some f→DInv (g i f m).1):DInv (onFile m nm g).1:=by
  unfold onFile
  split
  · exact h
  split
  · exact h
  · rename_i ht
    exact hg _ _ (getD_there (by simpa using ht)).1
theorem spent_inv {m:DM}{g:DM→DM}(h:DInv m) (hg:∀ m',DInv m'→m'.fs=m.fs→m'.room=m.room→DInv (g m')):DInv (spent m g).1:=by
  unfold spent
  split
  · exact h.spend
  · exact hg _ h.spend (spendM_fs m).1 (spendM_fs m).2
theorem sync_inv {m:DM}(h:DInv m) (nm:ByteArray):DInv (syncM m nm).1:=by
  refine onFile_inv h fun i f hf=>spent_inv h fun m' h' e1 e2=>?_
  rw [←e1] at hf
  have hm:=List.mem_of_getElem? hf
  refine h'.files (sorted_set hf rfl h'.sorted) (fun x hx=>?_) ?_ (by rw [List.length_set];exact h'.len)
  · rcases List.mem_or_eq_of_mem_set hx with hx | rfl
    · exact .inl hx
    · exact .inr ⟨h'.names f hm,by simp,by simp⟩
  · have:=usedN_set (g:={ f with sy:=f.b.length }) hf
    have:=h'.used
    simp only at *;omega
theorem trunc_inv {m:DM}(h:DInv m) (nm:ByteArray) (n:Int):DInv (truncM m nm n).1:=by
  refine onFile_inv h fun i f hf=>?_
  split
  · exact h
  rename_i hn
  refine spent_inv h fun m' h' e1 e2=>?_
  rw [←e1] at hf
  have hm:=List.mem_of_getElem? hf
  have hsy:=h'.syn f hm
  refine h'.files (sorted_set hf rfl h'.sorted) (fun x hx=>?_) ?_ (by rw [List.length_set];exact h'.len)
  · rcases List.mem_or_eq_of_mem_set hx with hx | rfl
    · exact .inl hx
    · refine .inr ⟨h'.names f hm,?_,?_⟩<;>simp only [List.length_take] <;> split<;>omega
  · have h5:=usedN_set (g:={ f with b:=f.b.take n.toNat,sy:=if n<f.sy then n else f.sy }) hf
    have h6:=h'.used
    have h7:(f.b.take n.toNat).length≤f.b.length:=by rw [List.length_take];omega
    simp only at h5 ⊢
    omega
theorem remove_inv {m:DM}(h:DInv m) (nm:ByteArray):DInv (removeM m nm).1:=by
  refine onFile_inv h fun i f hf=>spent_inv h fun m' h' e1 e2=>?_
  rw [←e1] at hf
  refine h'.files (sorted_erase h'.sorted) (fun x hx=>.inl (List.mem_of_mem_eraseIdx hx)) ?_ ?_
  · have:=usedN_erase hf
    have:=h'.used
    omega
  · rw [List.length_eraseIdx];have:=h'.len;split<;>omega
theorem move_inv {m:DM}(h:DInv m) {i:Nat}{f:DF}{to:ByteArray}(hf:m.fs[i]? = some f) (ht:namedB to=true):DInv { m with fs:=moveL m.fs i f to }:=by
  have hm:=List.mem_of_getElem? hf
  have hu:=usedN_erase hf
  have hused:=h.used
  have hlt:=(List.getElem?_eq_some_iff.1 hf).1
  have hlen:(m.fs.eraseIdx i).length=m.fs.length - 1:=by rw [List.length_eraseIdx,if_pos hlt]
  have hl:=h.len
  unfold moveL
  simp only
  cases hth:thereL (m.fs.eraseIdx i) to.toList with
  | true=>
    obtain ⟨g,hg,hk⟩:=there_get hth
    have hgm:=List.mem_of_getElem? hg
    rw [if_pos rfl]
    refine h.files (sorted_set hg (by simp only [DF.key] at hk ⊢;exact hk.symm) (sorted_erase h.sorted)) (fun x hx=>?_) ?_ (by rw [List.length_set,hlen];omega)
    · rcases List.mem_or_eq_of_mem_set hx with hx | rfl
      · exact .inl (List.mem_of_mem_eraseIdx hx)
      · exact .inr ⟨ht,h.syn f hm⟩
    · have:=usedN_set (g:={ f with nm:=to }) hg
      simp only at this;omega
  | false=>
    rw [if_neg (by simp)]
    refine h.files (sorted_ins (g:={ f with nm:=to }) (sorted_erase h.sorted) hth) (fun x hx=>?_) ?_ ?_
    · rcases mem_insL hx with rfl | hx
      · exact .inr ⟨ht,h.syn f hm⟩
      · exact .inl (List.mem_of_mem_eraseIdx hx)
    · rw [usedN_ins];simp only;omega
    · rw [insL_length _ _ _ (findL_le _ _),hlen];omega
theorem rename_inv {m:DM}(h:DInv m) (nm to:ByteArray):DInv (renameM m nm to).1:=by
  unfold renameM
  split
  · exact h
  rename_i hn
  refine onFile_inv h fun i f hf=>spent_inv h fun m' h' e1 e2=>?_
  rw [←e1] at hf
  exact move_inv h' hf (by simpa using hn)
def appFs (fs:List DF) (nm:ByteArray) (b:List UInt8):List DF:=
  (if thereL fs nm.toList then fs else insL fs (findL fs nm.toList) ⟨nm,[],0⟩).set (findL fs nm.toList) { ((if thereL fs nm.toList then fs else insL fs (findL fs nm.toList) ⟨nm,[],0⟩).getD (findL fs nm.toList) ⟨nm,[],0⟩) with b:=((if thereL fs nm.toList then fs else insL fs (findL fs nm.toList) ⟨nm,[],0⟩).getD (findL fs nm.toList) ⟨nm,[],0⟩).b++b }
theorem append_inv {m:DM}(h:DInv m) (nm:ByteArray) (b:List UInt8):DInv (appendM m nm b).1:=by
  unfold appendM
  split
  · exact h
  rename_i hn
  have hn:namedB nm=true:=by simpa using hn
  split
  · exact h
  split
  · exact h
  rename_i hfull
  simp only [Bool.or_eq_true,Bool.and_eq_true,Bool.not_eq_true',decide_eq_true_eq,not_or,not_and] at hfull
  obtain ⟨hf1,hf2⟩:=hfull
  split
  · exact h.spend
  have h':=h.spend
  obtain ⟨e1,e2⟩:=spendM_fs m
  show DInv { (spendM m).1 with fs:=appFs m.fs nm b }
  unfold appFs
  rw [←e1]
  rw [←e2] at hf2
  rw [←e1] at hf1 hf2
  generalize (spendM m).1=m' at *
  cases ht:thereL m'.fs nm.toList with
  | true=>
    obtain ⟨hg,hk⟩:=getD_there (d:=⟨nm,[],0⟩) ht
    have hgm:=List.mem_of_getElem? hg
    simp only [if_true]
    refine h'.files (sorted_set hg rfl h'.sorted) (fun x hx=>?_) ?_ (by rw [List.length_set];exact h'.len)
    · rcases List.mem_or_eq_of_mem_set hx with hx | rfl
      · exact .inl hx
      · have:=h'.syn _ hgm
        exact .inr ⟨(h'.names _ hgm:_),this.1,by simp only [List.length_append];omega⟩
    · have:=usedN_set (g:={ (m'.fs.getD (findL m'.fs nm.toList) ⟨nm,[],0⟩) with b:=(m'.fs.getD (findL m'.fs nm.toList) ⟨nm,[],0⟩).b++b }) hg
      simp only [List.length_append] at this;omega
  | false=>
    have hins:=insL_get m'.fs (findL m'.fs nm.toList) ⟨nm,[],0⟩ (findL_le _ _)
    have hgd:(insL m'.fs (findL m'.fs nm.toList) ⟨nm,[],0⟩).getD (findL m'.fs nm.toList) ⟨nm,[],0⟩=⟨nm,[],0⟩:=by simp [hins]
    simp only [Bool.false_eq_true,if_false]
    rw [hgd]
    have hlen:=insL_length m'.fs (findL m'.fs nm.toList) ⟨nm,[],0⟩ (findL_le _ _)
    refine h'.files (sorted_set hins rfl (sorted_ins (g:=⟨nm,[],0⟩) h'.sorted ht)) (fun x hx=>?_) ?_ ?_
    · rcases List.mem_or_eq_of_mem_set hx with hx | rfl
      · rcases mem_insL hx with rfl | hx
        · exact .inr ⟨hn,by simp,by simp⟩
        · exact .inl hx
      · exact .inr ⟨hn,by simp,by simp⟩
    · have:=usedN_set (g:={ (⟨nm,[],0⟩:DF) with b:=[]++b }) hins
      have:=usedN_ins m'.fs (findL m'.fs nm.toList) ⟨nm,[],0⟩
      simp only [List.length_append,List.length_nil] at *;omega
    · rw [List.length_set,hlen]
      have:=hf1 ht
      omega
theorem arm_inv {m:DM}(h:DInv m) {n:Int}(hn:i64 n):DInv (armM m n):=
  ⟨h.sorted,h.names,h.syn,h.used,h.room,h.len,hn,fun ha=>by simpa [armM] using ha⟩
theorem keepN_le {f:DF}(h:0≤f.sy∧f.sy≤f.b.length) (keep:Int):f.sy≤keepN keep f∧keepN keep f≤f.b.length:=by
  unfold keepN
  constructor<;>split<;>split<;>omega
theorem wake_inv {m:DM}(h:DInv m) (keep:Int):DInv (wakeM m keep):=by
  refine ⟨sorted_keys (fs:=m.fs) (by simp [wakeM,wakeF,Function.comp_def]) h.sorted,fun f hf=>?_,fun f hf=>?_,?_,h.room,by simpa [wakeM] using h.len,⟨⟨by simp [wakeM],by simp [wakeM]⟩,fun h=>by cases h⟩⟩
  · obtain ⟨g,hg,rfl⟩:=List.mem_map.1 hf
    exact h.names g hg
  · obtain ⟨g,hg,rfl⟩:=List.mem_map.1 hf
    have h1:=h.syn g hg
    have:=keepN_le h1 keep
    simp only [wakeF,List.length_take]
    omega
  · have:usedN (m.fs.map (wakeF keep))≤usedN m.fs:=by
      generalize m.fs=fs
      induction fs with
      | nil=>simp
      | cons f fs ih=>simp [usedN,wakeF] at ih ⊢;omega
    have:=h.used
    simp only [wakeM];omega
end Go.Cx
namespace Go.Cx
open Go Go.Cf
set_option linter.unusedVariables false
set_option maxRecDepth 100000
def bitN (r:Nat):Nat:=if r % 2=1 then (r / 2) ^^^ 3988292384 else r / 2
def bitsN:Nat→Nat→Nat
  | 0,r=>r
  | k+1,r=>bitN (bitsN k r)
def byteN (r y:Nat):Nat:=bitsN 8 (r ^^^ y)
def runN (r:Nat) (bs:List UInt8):Nat:=bs.foldl (fun r y=>byteN r y.toNat) r
def moreN (crc:Nat) (bs:List UInt8):Nat:=4294967295 ^^^ runN (4294967295 ^^^ crc) bs
theorem xor32_lt {a b:Nat}(ha:a<4294967296) (hb:b<4294967296):a ^^^ b<4294967296:=Nat.xor_lt_two_pow (n:=32) ha hb
theorem bitN_lt {r:Nat}(h:r<4294967296):bitN r<4294967296:=by
  unfold bitN
  split
  · exact xor32_lt (by omega) (by decide)
  · omega
theorem bitsN_lt:∀ (k:Nat) {r:Nat},r<4294967296→bitsN k r<4294967296
  | 0,_,h=>h
  | k+1,_,h=>bitN_lt (bitsN_lt k h)
theorem u8_lt (y:UInt8):y.toNat<256:=y.toNat_lt
theorem byteN_lt {r:Nat}(h:r<4294967296) (y:UInt8):byteN r y.toNat<4294967296:=bitsN_lt 8 (xor32_lt h (by have:=u8_lt y;omega))
theorem runN_lt:∀ (bs:List UInt8) {r:Nat},r<4294967296→runN r bs<4294967296
  | [],_,h=>h
  | y::bs,_,h=>runN_lt bs (byteN_lt h y)
theorem runN_snoc (bs:List UInt8) (r:Nat) (y:UInt8):runN r (bs++[y])=byteN (runN r bs) y.toNat:=by
  unfold runN
  rw [List.foldl_append];rfl
theorem moreN_lt {crc:Nat}(h:crc<4294967296) (bs:List UInt8):moreN crc bs<4294967296:=xor32_lt (by decide) (runN_lt bs (xor32_lt (by decide) h))
theorem wrap_u32 (n:Nat) (h:n<4294967296):IntKind.u32.wrap (n:Int)=n:=by
  have e1:(2 ^ IntKind.u32.bits:Int)=4294967296:=by decide
  have e3:IntKind.u32.signed=false:=rfl
  simp only [IntKind.wrap,e1,e3,Bool.false_and]
  simp;omega
theorem wrap_u64 (n:Nat) (h:n<18446744073709551616):IntKind.u64.wrap (n:Int)=n:=by
  have e1:(2 ^ IntKind.u64.bits:Int)=18446744073709551616:=by decide
  have e3:IntKind.u64.signed=false:=rfl
  simp only [IntKind.wrap,e1,e3,Bool.false_and]
  simp;omega
theorem wrap_u8 (n:Nat):IntKind.u8.wrap (n:Int)=((n % 256:Nat):Int):=by
  have e1:(2 ^ IntKind.u8.bits:Int)=256:=by decide
  have e3:IntKind.u8.signed=false:=rfl
  simp only [IntKind.wrap,e1,e3,Bool.false_and]
  simp
def hdN (n:Nat):List UInt8:=[UInt8.ofNat (n / 256),UInt8.ofNat n]
def sumN (p:List UInt8):Nat:=moreN (moreN 0 (hdN p.length)) p
def crcB (r:Nat):List UInt8:=[UInt8.ofNat (r / 16777216),UInt8.ofNat (r / 65536),UInt8.ofNat (r / 256),UInt8.ofNat r]
def frameN (p:List UInt8):List UInt8:=hdN p.length++crcB (sumN p)++p
theorem sumN_lt (p:List UInt8):sumN p<4294967296:=moreN_lt (moreN_lt (by decide) _) _
theorem byte_of (m:Nat):IntKind.u8.wrap (m:Int)=((UInt8.ofNat m).toNat:Int):=by
  rw [wrap_u8,UInt8.toNat_ofNat']
theorem shr_eq (n:Nat) (d:Int) (D:Nat) (h:d=(D:Int)):Int.fdiv (n:Int) d=((n / D:Nat):Int):=by
  subst h
  rw [Int.fdiv_eq_ediv_of_nonneg _ (by omega)]
  exact (Int.natCast_ediv n D).symm
theorem tdiv_eq (n D:Nat):(n:Int).tdiv (D:Int)=((n / D:Nat):Int):=by
  rw [Int.tdiv_eq_ediv_of_nonneg (by omega)];exact (Int.natCast_ediv n D).symm
theorem tmod_eq (n D:Nat):(n:Int).tmod (D:Int)=((n % D:Nat):Int):=by
  rw [Int.tmod_eq_emod_of_nonneg (by omega)];exact (Int.natCast_emod n D).symm
def frLen (b:List UInt8):Nat:=(b.getD 0 0).toNat*256+(b.getD 1 0).toNat
def crcOf (b:List UInt8):Nat:=(((b.getD 2 0).toNat*256+(b.getD 3 0).toNat)*256+(b.getD 4 0).toNat)*256+(b.getD 5 0).toNat
def getN (b:List UInt8):List UInt8×Nat×Int:=
  if b.length<6 then ([],0,1)
  else if frLen b>1024 then ([],0,2)
  else if b.length<6+frLen b then ([],0,1)
  else if crcOf b=sumN ((b.take (6+frLen b)).drop 6) then ((b.take (6+frLen b)).drop 6,6+frLen b,0)
  else ([],0,5)
theorem getD_of {b:List UInt8}{i:Nat}{x:UInt8}(h:b[i]? = some x):b.getD i 0=x:=by
  rw [List.getD_eq_getElem?_getD,h];rfl
theorem crc_iff (xs p:List UInt8) (h6:6≤xs.length):crcOf xs=sumN p↔∀ j,2≤j→j<6→xs[j]? = (frameN p)[j]?:=by
  have x2:=List.getElem?_eq_getElem (l:=xs) (i:=2) (by omega)
  have x3:=List.getElem?_eq_getElem (l:=xs) (i:=3) (by omega)
  have x4:=List.getElem?_eq_getElem (l:=xs) (i:=4) (by omega)
  have x5:=List.getElem?_eq_getElem (l:=xs) (i:=5) (by omega)
  have hcr:crcOf xs=((xs[2].toNat*256+xs[3].toNat)*256+xs[4].toNat)*256+xs[5].toNat:=by unfold crcOf;rw [getD_of x2,getD_of x3,getD_of x4,getD_of x5]
  generalize xs[2]=y2 at *
  generalize xs[3]=y3 at *
  generalize xs[4]=y4 at *
  generalize xs[5]=y5 at *
  have f2:(frameN p)[2]? = some (UInt8.ofNat (sumN p / 16777216)):=rfl
  have f3:(frameN p)[3]? = some (UInt8.ofNat (sumN p / 65536)):=rfl
  have f4:(frameN p)[4]? = some (UInt8.ofNat (sumN p / 256)):=rfl
  have f5:(frameN p)[5]? = some (UInt8.ofNat (sumN p)):=rfl
  have hs:=sumN_lt p
  have hy2:=u8_lt y2
  have hy3:=u8_lt y3
  have hy4:=u8_lt y4
  have hy5:=u8_lt y5
  rw [hcr]
  generalize sumN p=r at *
  have tn:∀ m:Nat,(UInt8.ofNat m).toNat=m % 256:=fun m=>UInt8.toNat_ofNat'
  constructor
  · intro h j hj1 hj2
    have:j=2∨j=3∨j=4∨j=5:=by omega
    rcases this with rfl | rfl | rfl | rfl
    · rw [x2,f2,show y2=UInt8.ofNat (r / 16777216) from UInt8.toNat_inj.1 (by rw [tn];omega)]
    · rw [x3,f3,show y3=UInt8.ofNat (r / 65536) from UInt8.toNat_inj.1 (by rw [tn];omega)]
    · rw [x4,f4,show y4=UInt8.ofNat (r / 256) from UInt8.toNat_inj.1 (by rw [tn];omega)]
    · rw [x5,f5,show y5=UInt8.ofNat r from UInt8.toNat_inj.1 (by rw [tn];omega)]
  · intro h
    have a2:=h 2 (by omega) (by omega)
    have a3:=h 3 (by omega) (by omega)
    have a4:=h 4 (by omega) (by omega)
    have a5:=h 5 (by omega) (by omega)
    rw [x2,f2,Option.some.injEq] at a2
    rw [x3,f3,Option.some.injEq] at a3
    rw [x4,f4,Option.some.injEq] at a4
    rw [x5,f5,Option.some.injEq] at a5
    rw [a2,a3,a4,a5,tn,tn,tn,tn]
    omega
def be8 (v:Nat):List UInt8:=(List.range 8).map fun i=>UInt8.ofNat (v / 256 ^ (7 - i))
theorem be8_len (v:Nat):(be8 v).length=8:=by simp [be8]
theorem be8_get (v:Nat) {i:Nat}(h:i<8):(be8 v)[i]? = some (UInt8.ofNat (v / 256 ^ (7 - i))):=by
  unfold be8
  rw [List.getElem?_map,List.getElem?_range h];rfl
def beV (bs:List UInt8):Nat:=bs.foldl (fun v y=>v*256+y.toNat) 0
theorem beV_snoc (bs:List UInt8) (y:UInt8):beV (bs++[y])=beV bs*256+y.toNat:=by
  unfold beV
  rw [List.foldl_append];rfl
theorem beV_lt:∀ (n:Nat) (bs:List UInt8),bs.length=n→beV bs<256 ^ n:=by
  intro n
  induction n with
  | zero=>intro bs h;have:=List.eq_nil_of_length_eq_zero h;subst this;decide
  | succ n ih=>
    intro bs h
    have hne:bs≠[]:=fun e=>by subst e;simp at h
    have e:=List.dropLast_concat_getLast hne
    have hl:bs.dropLast.length=n:=by simp;omega
    have:=ih _ hl
    have hy:=u8_lt (bs.getLast hne)
    rw [←e,beV_snoc,Nat.pow_succ]
    omega
theorem pow_le (k:Nat) (h:k≤7):256 ^ k≤72057594037927936:=by
  have:(256:Nat) ^ k≤256 ^ 7:=Nat.pow_le_pow_right (by decide) h
  simpa using this
def cut8 (xs:List UInt8) (a:Nat):List UInt8:=(xs.take (a+8)).drop a
theorem cut8_len {xs:List UInt8}{a:Nat}(h:a+8≤xs.length):(cut8 xs a).length=8:=by simp [cut8];omega
theorem cut8_get {xs:List UInt8}{a k:Nat}(hk:k<8):(cut8 xs a)[k]? = xs[a+k]?:=by
  unfold cut8
  rw [List.getElem?_drop,List.getElem?_take_of_lt (by omega)]
theorem beV_step {q:List UInt8}{k:Nat}{y:UInt8}(h:q[k]? = some y):beV (q.take (k+1))=beV (q.take k)*256+y.toNat:=by
  rw [List.take_add_one,h]
  exact beV_snoc _ _
theorem beV_small {q:List UInt8}{k:Nat}(hq:q.length=8) (hk:k<8):beV (q.take k)<72057594037927936:=by
  have h1:=beV_lt k (q.take k) (by simp;omega)
  have h2:=pow_le k (by omega)
  omega
theorem getN_ok {b:List UInt8}(h:(getN b).2.2=0):6≤(getN b).2.1∧(getN b).2.1≤b.length∧(getN b).1.length+6=(getN b).2.1∧(getN b).1.length≤1024∧(getN b).1=(b.take (getN b).2.1).drop 6:=by
  unfold getN at h ⊢
  split
  · rename_i h1;rw [if_pos h1] at h;exact absurd h (by decide)
  rename_i h1
  rw [if_neg h1] at h
  split
  · rename_i h2;rw [if_pos h2] at h;exact absurd h (by decide)
  rename_i h2
  rw [if_neg h2] at h
  split
  · rename_i h3;rw [if_pos h3] at h;exact absurd h (by decide)
  rename_i h3
  rw [if_neg h3] at h
  split
  · refine ⟨?_,?_,?_,?_,rfl⟩<;>simp<;>omega
  · rename_i h4;rw [if_neg h4] at h;exact absurd h (by decide)
def scanG:Nat→List UInt8→List (List UInt8)×Nat
  | 0,_=>([],0)
  | n+1,b=>if (getN b).2.2=0 then ((getN b).1::(scanG n (b.drop (getN b).2.1)).1,(getN b).2.1+(scanG n (b.drop (getN b).2.1)).2) else ([],0)
def scanN (b:List UInt8):List (List UInt8)×Nat:=scanG (b.length+1) b
theorem scanG_fuel:∀ (n m:Nat) (b:List UInt8),b.length<n→b.length<m→scanG n b=scanG m b:=by
  intro n
  induction n with
  | zero=>intro m b h;omega
  | succ n ih=>
    intro m b h1 h2
    cases m with
    | zero=>omega
    | succ m=>
      unfold scanG
      by_cases h:(getN b).2.2=0
      · obtain ⟨a1,a2,_⟩:=getN_ok h
        have hd:(b.drop (getN b).2.1).length=b.length - (getN b).2.1:=List.length_drop
        rw [if_pos h,if_pos h,ih m _ (by omega) (by omega)]
      · rw [if_neg h,if_neg h]
theorem scan_ok {b:List UInt8}(h:(getN b).2.2=0):scanN b=((getN b).1::(scanN (b.drop (getN b).2.1)).1,(getN b).2.1+(scanN (b.drop (getN b).2.1)).2):=by
  obtain ⟨a1,a2,_⟩:=getN_ok h
  have hd:(b.drop (getN b).2.1).length=b.length - (getN b).2.1:=List.length_drop
  unfold scanN
  conv=>lhs;unfold scanG
  rw [if_pos h,scanG_fuel b.length ((b.drop (getN b).2.1).length+1) _ (by omega) (by omega)]
theorem scan_no {b:List UInt8}(h:¬ (getN b).2.2=0):scanN b=([],0):=by
  unfold scanN scanG
  rw [if_neg h]
theorem scan_used:∀ (n:Nat) (b:List UInt8),b.length≤n→(scanN b).2≤b.length∧(scanN b).1.length≤b.length∧∀ p∈(scanN b).1,p.length≤1024:=by
  intro n
  induction n with
  | zero=>
    intro b h
    have hb:b=[]:=List.eq_nil_of_length_eq_zero (by omega)
    subst hb
    rw [scan_no (by decide)]
    exact ⟨Nat.le_refl _,Nat.le_refl _,by simp⟩
  | succ n ih=>
    intro b h
    by_cases hg:(getN b).2.2=0
    · obtain ⟨a1,a2,a3,a4,_⟩:=getN_ok hg
      have hd:(b.drop (getN b).2.1).length=b.length - (getN b).2.1:=List.length_drop
      obtain ⟨h1,h2,h3⟩:=ih (b.drop (getN b).2.1) (by omega)
      rw [scan_ok hg]
      refine ⟨by dsimp only;omega,by simp only [List.length_cons];omega,?_⟩
      intro p hp
      simp only [List.mem_cons] at hp
      rcases hp with rfl | hp
      · exact a4
      · exact h3 p hp
    · rw [scan_no hg]
      exact ⟨Nat.zero_le _,Nat.zero_le _,by simp⟩
theorem scan_len (b:List UInt8):(scanN b).2≤b.length:=(scan_used b.length b (Nat.le_refl _)).1
theorem frame_len (p:List UInt8):(frameN p).length=6+p.length:=by unfold frameN;rw [List.length_append];rfl
def catF (H:List (List UInt8)):List UInt8:=(H.map frameN).flatten
theorem catF_cons (p:List UInt8) (H:List (List UInt8)):catF (p::H)=frameN p++catF H:=rfl
theorem catF_snoc (p:List UInt8) (H:List (List UInt8)):catF (H++[p])=catF H++frameN p:=by simp [catF]
end Go.Cx
namespace Go.Cx
open Go Go.Cf
set_option linter.unusedVariables false
def getF (fs:List DF) (k:Key):Option DF:=fs.find? fun f=>f.key == k
theorem key_uniq {fs:List DF}(hs:Sorted fs) {i j:Nat}{f g:DF}(hf:fs[i]? = some f) (hg:fs[j]? = some g) (hk:f.key=g.key):i=j:=by
  have h1:=(find_unique hs hf rfl).1
  have h2:=(find_unique hs hg rfl).1
  rw [hk] at h1;omega
theorem getF_iff {fs:List DF}(hs:Sorted fs) {k:Key}{f:DF}:getF fs k=some f↔f∈fs∧f.key=k:=by
  unfold getF
  constructor
  · intro h
    exact ⟨List.mem_of_find?_eq_some h,by simpa using List.find?_some h⟩
  · rintro ⟨hm,hk⟩
    cases h:fs.find? fun f=>f.key == k with
    | none=>
      have:=List.find?_eq_none.1 h f hm
      simp [hk] at this
    | some g=>
      have hg:=List.mem_of_find?_eq_some h
      have hgk:g.key=k:=by simpa using List.find?_some h
      obtain ⟨i,hi⟩:=List.mem_iff_getElem?.1 hm
      obtain ⟨j,hj⟩:=List.mem_iff_getElem?.1 hg
      obtain rfl:=key_uniq hs hi hj (hk.trans hgk.symm)
      rw [hi] at hj;exact hj.symm
theorem getF_none {fs:List DF}{k:Key}:getF fs k=none↔∀ f∈fs,f.key≠k:=by
  unfold getF
  rw [List.find?_eq_none]
  simp
theorem getF_key {fs:List DF}{k:Key}{f:DF}(h:getF fs k=some f):f.key=k:=by simpa using List.find?_some h
theorem getF_mem {fs:List DF}{k:Key}{f:DF}(h:getF fs k=some f):f∈fs:=List.mem_of_find?_eq_some h
theorem getF_there {fs:List DF}(hs:Sorted fs) (k:Key):thereL fs k=(getF fs k).isSome:=by
  cases h:getF fs k with
  | some f=>
    obtain ⟨i,hi⟩:=List.mem_iff_getElem?.1 (getF_mem h)
    exact (find_unique hs hi (getF_key h)).2
  | none=>
    cases ht:thereL fs k with
    | false=>rfl
    | true=>
      obtain ⟨f,hf,hk⟩:=there_get ht
      exact absurd hk (getF_none.1 h f (List.mem_of_getElem? hf))
theorem getF_at {fs:List DF}(hs:Sorted fs) {k:Key}{f:DF}(h:getF fs k=some f):thereL fs k=true∧fs[findL fs k]? = some f:=by
  obtain ⟨i,hi⟩:=List.mem_iff_getElem?.1 (getF_mem h)
  obtain ⟨h1,h2⟩:=find_unique hs hi (getF_key h)
  rw [h1];exact ⟨h2,hi⟩
theorem getF_getD {fs:List DF}(hs:Sorted fs) {k:Key}{f d:DF}(h:getF fs k=some f):fs.getD (findL fs k) d=f:=by
  simp [(getF_at hs h).2]
theorem getF_set {fs:List DF}(hs:Sorted fs) {i:Nat}{f g:DF}(hf:fs[i]? = some f) (hk:g.key=f.key) (k:Key):getF (fs.set i g) k=if k=f.key then some g else getF fs k:=by
  have hs':=sorted_set hf hk hs
  have hi:=(List.getElem?_eq_some_iff.1 hf).1
  split
  · rename_i e
    exact (getF_iff hs').2 ⟨List.mem_set hi g,hk.trans e.symm⟩
  · rename_i e
    apply Option.ext
    intro x
    rw [getF_iff hs',getF_iff hs]
    constructor
    · rintro ⟨hm,hx⟩
      rcases List.mem_or_eq_of_mem_set hm with hm | rfl
      · exact ⟨hm,hx⟩
      · exact absurd (hx.symm.trans hk) e
    · rintro ⟨hm,hx⟩
      refine ⟨?_,hx⟩
      obtain ⟨j,hj⟩:=List.mem_iff_getElem?.1 hm
      have:i≠j:=by
        intro h;subst h
        rw [hf] at hj;cases hj
        exact e hx.symm
      exact List.mem_iff_getElem?.2 ⟨j,by rw [List.getElem?_set_ne this];exact hj⟩
theorem getF_ins {fs:List DF}(hs:Sorted fs) {g:DF}(hn:thereL fs g.key=false) (k:Key):getF (insL fs (findL fs g.key) g) k=if k=g.key then some g else getF fs k:=by
  have hs':=sorted_ins hs hn
  have memI:∀ x,x∈insL fs (findL fs g.key) g↔x=g∨x∈fs:=by
    intro x
    constructor
    · exact mem_insL
    · unfold insL
      rintro (rfl | h)
      · simp
      · have:x∈fs.take (findL fs g.key)++fs.drop (findL fs g.key):=by rw [List.take_append_drop];exact h
        rcases List.mem_append.1 this with h | h
        · exact List.mem_append_left _ h
        · exact List.mem_append_right _ (List.mem_cons_of_mem _ h)
  split
  · rename_i e
    exact (getF_iff hs').2 ⟨(memI _).2 (.inl rfl),e.symm⟩
  · rename_i e
    apply Option.ext
    intro x
    rw [getF_iff hs',getF_iff hs,memI]
    constructor
    · rintro ⟨rfl | hm,hx⟩
      · exact absurd hx.symm e
      · exact ⟨hm,hx⟩
    · rintro ⟨hm,hx⟩
      exact ⟨.inr hm,hx⟩
theorem getF_erase {fs:List DF}(hs:Sorted fs) {i:Nat}{f:DF}(hf:fs[i]? = some f) (k:Key):getF (fs.eraseIdx i) k=if k=f.key then none else getF fs k:=by
  have hs':Sorted (fs.eraseIdx i):=sorted_erase hs
  have memE:∀ x,x∈fs.eraseIdx i↔x∈fs∧x.key≠f.key:=by
    intro x
    rw [List.mem_eraseIdx_iff_getElem?]
    constructor
    · rintro ⟨j,hj,hx⟩
      exact ⟨List.mem_of_getElem? hx,fun e=>hj (key_uniq hs hx hf e)⟩
    · rintro ⟨hm,hk⟩
      obtain ⟨j,hj⟩:=List.mem_iff_getElem?.1 hm
      refine ⟨j,fun e=>?_,hj⟩
      subst e
      rw [hf] at hj;cases hj
      exact hk rfl
  split
  · rename_i e
    rw [getF_none]
    intro x hx hk
    exact ((memE x).1 hx).2 (hk.trans e)
  · rename_i e
    apply Option.ext
    intro x
    rw [getF_iff hs',getF_iff hs,memE]
    constructor
    · rintro ⟨⟨hm,_⟩,hx⟩;exact ⟨hm,hx⟩
    · rintro ⟨hm,hx⟩;exact ⟨⟨hm,fun h=>e (hx.symm.trans h)⟩,hx⟩
structure Done (m:DM) (r:DM×Int) (fs:List DF):Prop where
  err:r.2=0
  files:r.1.fs=fs
  down:r.1.down=m.down
  room:r.1.room=m.room
  armed:m.armed=false→r.1.armed=false
def Fails (m:DM) (r:DM×Int):Prop:=m.armed=true∧r=({ m with down:=true },10)
theorem spent_or (m:DM) (φ:List DF→List DF):Fails m (spent m fun m=>{ m with fs:=φ m.fs })∨Done m (spent m fun m=>{ m with fs:=φ m.fs }) (φ m.fs):=by
  unfold spent
  have hfs:=spendM_fs m
  by_cases h:(m.armed&&m.left == 0)=true
  · have:spendM m=({ m with down:=true },false):=by unfold spendM;rw [if_pos h]
    rw [this]
    refine .inl ⟨?_,rfl⟩
    simp only [Bool.and_eq_true] at h
    exact h.1
  · have hs:(spendM m).2=true∧(spendM m).1.down=m.down∧(m.armed=false→(spendM m).1.armed=false):=by
      unfold spendM
      rw [if_neg h]
      split
      · rename_i ha;exact ⟨rfl,rfl,fun e=>by rw [ha] at e;cases e⟩
      · exact ⟨rfl,rfl,id⟩
    rw [hs.1]
    refine .inr ⟨rfl,?_,hs.2.1,hfs.2,hs.2.2⟩
    show φ (spendM m).1.fs=_
    rw [hfs.1]
theorem sync_or {m:DM}(hI:DInv m) {nm:ByteArray}{f:DF}(hd:m.down=false) (hf:getF m.fs nm.toList=some f) :
    Fails m (syncM m nm)∨Done m (syncM m nm) (m.fs.set (findL m.fs nm.toList) { f with sy:=f.b.length }):=by
  obtain ⟨h1,h2⟩:=getF_at hI.sorted hf
  have h3:=getF_getD (d:=⟨nm,[],0⟩) hI.sorted hf
  unfold syncM onFile
  rw [if_neg (by rw [hd];decide),if_neg (by rw [h1];decide),h3]
  exact spent_or m fun fs=>fs.set (findL m.fs nm.toList) { f with sy:=f.b.length }
theorem trunc_or {m:DM}(hI:DInv m) {nm:ByteArray}{f:DF}{n:Int}(hd:m.down=false) (hf:getF m.fs nm.toList=some f) (h0:0≤n) (hn:n≤f.b.length) :
    Fails m (truncM m nm n)∨Done m (truncM m nm n) (m.fs.set (findL m.fs nm.toList) { f with b:=f.b.take n.toNat,sy:=if n<f.sy then n else f.sy }):=by
  obtain ⟨h1,h2⟩:=getF_at hI.sorted hf
  have h3:=getF_getD (d:=⟨nm,[],0⟩) hI.sorted hf
  unfold truncM onFile
  rw [if_neg (by rw [hd];decide),if_neg (by rw [h1];decide),h3]
  have hc:¬ (n<0∨n>(f.b.length:Int)):=by omega
  simp only [if_neg hc]
  exact spent_or m fun fs=>fs.set (findL m.fs nm.toList) { f with b:=f.b.take n.toNat,sy:=if n<f.sy then n else f.sy }
theorem remove_or {m:DM}(hI:DInv m) {nm:ByteArray}{f:DF}(hd:m.down=false) (hf:getF m.fs nm.toList=some f) :
    Fails m (removeM m nm)∨Done m (removeM m nm) (m.fs.eraseIdx (findL m.fs nm.toList)):=by
  obtain ⟨h1,h2⟩:=getF_at hI.sorted hf
  have h3:=getF_getD (d:=⟨nm,[],0⟩) hI.sorted hf
  unfold removeM onFile
  rw [if_neg (by rw [hd];decide),if_neg (by rw [h1];decide),h3]
  exact spent_or m fun fs=>fs.eraseIdx (findL m.fs nm.toList)
theorem gone_none {m:DM}(hI:DInv m) {nm:ByteArray}(hf:getF m.fs nm.toList=none):thereL m.fs nm.toList=false:=by rw [getF_there hI.sorted,hf];rfl
theorem sync_none {m:DM}(hI:DInv m) {nm:ByteArray}(hd:m.down=false) (hf:getF m.fs nm.toList=none):syncM m nm=(m,6):=by
  unfold syncM onFile;rw [if_neg (by rw [hd];decide),if_pos (by rw [gone_none hI hf];rfl)]
theorem remove_none {m:DM}(hI:DInv m) {nm:ByteArray}(hd:m.down=false) (hf:getF m.fs nm.toList=none):removeM m nm=(m,6):=by
  unfold removeM onFile;rw [if_neg (by rw [hd];decide),if_pos (by rw [gone_none hI hf];rfl)]
theorem on_down {m:DM}(hd:m.down=true) (nm:ByteArray) (g:Nat→DF→DM→DM×Int):onFile m nm g=(m,10):=by unfold onFile;rw [if_pos hd]
theorem read_some {m:DM}(hI:DInv m) {nm:ByteArray}{f:DF}(hf:getF m.fs nm.toList=some f):readM m nm=(f.b,0):=by
  unfold readM
  rw [if_neg (by rw [(getF_at hI.sorted hf).1];decide),getF_getD hI.sorted hf]
theorem read_none {m:DM}(hI:DInv m) {nm:ByteArray}(hf:getF m.fs nm.toList=none):readM m nm=([],6):=by
  unfold readM;rw [if_pos (by rw [gone_none hI hf];rfl)]
theorem append_or {m:DM}(hI:DInv m) {nm:ByteArray}{b:List UInt8}(hn:namedB nm=true) (hd:m.down=false) :
    (appendM m nm b=(m,9)∧((getF m.fs nm.toList=none∧m.fs.length=64)∨(b.length:Int)>m.room - usedN m.fs))∨Fails m (appendM m nm b) ∨
    (Done m (appendM m nm b) (appFs m.fs nm b)∧(b.length:Int)≤m.room - usedN m.fs∧(getF m.fs nm.toList=none→m.fs.length<64)):=by
  have ht:=getF_there hI.sorted nm.toList
  have hl:=hI.len
  by_cases hfull:((!(thereL m.fs nm.toList)&&decide ((m.fs.length:Int)≥64))||decide ((b.length:Int)>m.room - usedN m.fs))=true
  · left
    refine ⟨by unfold appendM;rw [if_neg (by rw [hn];decide),if_neg (by rw [hd];decide),if_pos hfull],?_⟩
    simp only [Bool.or_eq_true,Bool.and_eq_true,Bool.not_eq_true',decide_eq_true_eq] at hfull
    rcases hfull with ⟨h1,h2⟩ | h
    · rw [ht] at h1
      exact .inl ⟨by simpa using h1,by omega⟩
    · exact .inr h
  · right
    have hu:appendM m nm b=spent m fun m=>{ m with fs:=appFs m.fs nm b }:=by
      unfold appendM spent
      rw [if_neg (by rw [hn];decide),if_neg (by rw [hd];decide),if_neg hfull]
      split
      · rfl
      · show (({ (spendM m).1 with fs:=appFs m.fs nm b }:DM),(0:Int))=({ (spendM m).1 with fs:=appFs (spendM m).1.fs nm b },0)
        rw [(spendM_fs m).1]
    rw [hu]
    rcases spent_or m fun fs=>appFs fs nm b with h | h
    · exact .inl h
    · refine .inr ⟨h,?_⟩
      simp only [Bool.or_eq_true,Bool.and_eq_true,Bool.not_eq_true',decide_eq_true_eq,not_or,not_and] at hfull
      refine ⟨by omega,fun hn=>?_⟩
      have:=hfull.1 (by rw [ht,hn];rfl)
      omega
theorem getF_app {fs:List DF}(hs:Sorted fs) (nm:ByteArray) (b:List UInt8) (k:Key) :
    getF (appFs fs nm b) k=if k=nm.toList then some { ((getF fs nm.toList).getD ⟨nm,[],0⟩) with b:=((getF fs nm.toList).getD ⟨nm,[],0⟩).b++b } else getF fs k:=by
  unfold appFs
  cases h:getF fs nm.toList with
  | some f=>
    obtain ⟨h1,h2⟩:=getF_at hs h
    rw [if_pos h1,getF_getD hs h]
    show getF (fs.set (findL fs nm.toList) { f with b:=f.b++b }) k=_
    rw [getF_set (g:={ f with b:=f.b++b }) hs h2 rfl,getF_key h];rfl
  | none=>
    have h1:thereL fs nm.toList=false:=by rw [getF_there hs,h];rfl
    rw [h1]
    simp only [Bool.false_eq_true,if_false,Option.getD_none]
    have hins:=insL_get fs (findL fs nm.toList) ⟨nm,[],0⟩ (findL_le _ _)
    have hgd:(insL fs (findL fs nm.toList) ⟨nm,[],0⟩).getD (findL fs nm.toList) ⟨nm,[],0⟩=⟨nm,[],0⟩:=by simp [hins]
    rw [hgd]
    show getF ((insL fs (findL fs nm.toList) ⟨nm,[],0⟩).set (findL fs nm.toList) (⟨nm,[]++b,0⟩:DF)) k=_
    rw [getF_set (g:=(⟨nm,[]++b,0⟩:DF)) (sorted_ins (g:=⟨nm,[],0⟩) hs h1) hins rfl]
    have:=getF_ins hs (g:=⟨nm,[],0⟩) h1 k
    simp only [DF.key] at this ⊢
    rw [this]
    split<;>rfl
theorem used_app {fs:List DF}(hs:Sorted fs) (nm:ByteArray) (b:List UInt8):usedN (appFs fs nm b)=usedN fs+b.length:=by
  unfold appFs
  cases h:getF fs nm.toList with
  | some f=>
    obtain ⟨h1,h2⟩:=getF_at hs h
    rw [if_pos h1,getF_getD hs h]
    have:=usedN_set (g:={ f with b:=f.b++b }) h2
    show usedN (fs.set (findL fs nm.toList) { f with b:=f.b++b })=_
    simp only [List.length_append] at this;omega
  | none=>
    have h1:thereL fs nm.toList=false:=by rw [getF_there hs,h];rfl
    rw [h1]
    simp only [Bool.false_eq_true,if_false]
    have hins:=insL_get fs (findL fs nm.toList) ⟨nm,[],0⟩ (findL_le _ _)
    have hgd:(insL fs (findL fs nm.toList) ⟨nm,[],0⟩).getD (findL fs nm.toList) ⟨nm,[],0⟩=⟨nm,[],0⟩:=by simp [hins]
    rw [hgd]
    have:=usedN_set (g:=(⟨nm,[]++b,0⟩:DF)) hins
    have h2:=usedN_ins fs (findL fs nm.toList) ⟨nm,[],0⟩
    show usedN ((insL fs (findL fs nm.toList) ⟨nm,[],0⟩).set (findL fs nm.toList) (⟨nm,[]++b,0⟩:DF))=_
    simp only [List.length_append,List.length_nil] at this h2
    omega
end Go.Cx
namespace Go.Cx
open Go Go.Cf
set_option linter.unusedVariables false
set_option maxRecDepth 100000
def preL:List UInt8:=[108,111,103,45]
def fN (n:Int):ByteArray:=BA (preL++Lib.itoa n)
abbrev fK (n:Int):Key:=(fN n).toList
def headN:ByteArray:=BA [104,101,97,100]
def newN:ByteArray:=BA [104,101,97,100,46,110,101,119]
def isFileB (l:List UInt8):Bool:=decide (5≤l.length)&&decide (l.length≤16)&&(l.take 4 == preL) && !(l[4]? == some 48)&&(l.drop 4).all isDig
abbrev lastN:Int:=999999999999
structure Sg where
  n:Int
  first:Int
  size:Int
  ps:List (List UInt8)
structure LM where
  n:Int
  first:Int
  segs:List Sg
  safe:Int
def Sg.next (s:Sg):Int:=s.first+s.ps.length
def LM.cur (l:LM):Option Sg:=l.segs.getLast?
def LM.next (l:LM):Int:=match l.cur with
  | some s=>s.next
  | none=>l.first
def LM.lo (l:LM):Int:=match l.segs with
  | []=>l.first
  | s::_=>s.first
def dropM (m:DM) (nm:ByteArray):DM×Int:=if (removeM m nm).2=6 then ((removeM m nm).1,0) else removeM m nm
def headM (m:DM):Int×Int×Int:=
  if (readM m headN).2≠0 then (1,0,0)
  else
    let g:=getN (readM m headN).1
    if g.2.2≠0∨g.2.1≠(readM m headN).1.length∨g.1.length≠16 then (0,0,30)
    else if beV (cut8 g.1 0)<1∨beV (cut8 g.1 0)>999999999999∨beV (cut8 g.1 8)>1099511627776 then (0,0,30)
    else (beV (cut8 g.1 0),beV (cut8 g.1 8),0)
def mendM (m:DM) (n:Int):DM×Int:=
  let b:=(readM m (fN n)).1
  let t:=if (scanN b).2<b.length then truncM m (fN n) (scanN b).2 else (m,0)
  if t.2≠0 then t else syncM t.1 (fN n)
def readL:Nat→DM→Int→LM→DM×LM×Int
  | 0,m,_,l=>(m,l,0)
  | k+1,m,n,l=>
    if (readM m (fN n)).2≠0 then (m,l,0)
    else if (mendM m n).2≠0 then ((mendM m n).1,l,(mendM m n).2)
    else
      let b:=(readM m (fN n)).1
      let l':={ l with segs:=l.segs++[⟨n,l.next,(scanN b).2,(scanN b).1⟩] }
      if (scanN b).2<b.length then ((mendM m n).1,l',0) else readL k (mendM m n).1 (n+1) l'
def keepB (l:LM) (nm:ByteArray):Bool:=!(isFileB nm.data.toList)||l.segs.any fun s=>fK s.n == nm.toList
def sweepM (l:LM):List ByteArray→DM→DM×Int
  | [],m=>(m,0)
  | nm::r,m=>if keepB l nm then sweepM l r m else if (removeM m nm).2≠0 then removeM m nm else sweepM l r (removeM m nm).1
def openM (m:DM):DM×Option LM×Int:=
  if (dropM m newN).2≠0 then ((dropM m newN).1,none,(dropM m newN).2)
  else
    let m1:=(dropM m newN).1
    let h:=headM m1
    if h.2.2≠0 then (m1,none,h.2.2)
    else
      let r:=readL 70 m1 h.1 ⟨h.1,h.2.1,[],0⟩
      if r.2.2≠0 then (r.1,none,r.2.2)
      else
        let w:=sweepM r.2.1 (r.1.fs.map (·.nm)) r.1
        if w.2≠0 then (w.1,none,w.2) else (w.1,some { r.2.1 with safe:=r.2.1.next },0)
def syncL (m:DM) (l:LM):DM×LM×Int:=
  if m.down then (m,l,10)
  else if l.safe=l.next then (m,l,0)
  else
    let y:=syncM m (fN ((l.cur.map Sg.n).getD 0))
    if y.2≠0 then (y.1,l,y.2) else (y.1,{ l with safe:=l.next },0)
def LM.full (l:LM):Bool:=match l.cur with
  | some s=>decide (s.size≥1024)
  | none=>false
def LM.curN (l:LM):Int:=match l.cur with
  | some s=>s.n
  | none=>l.n
def addL (ss:List Sg) (p:List UInt8):List Sg:=match ss.getLast? with
  | some s=>ss.dropLast++[{ s with size:=s.size+(frameN p).length,ps:=s.ps++[p] }]
  | none=>[]
def appendL (m:DM) (l:LM) (p:List UInt8):DM×LM×Int×Int:=
  if m.down then (m,l,0,10)
  else if p.length>1024 then (m,l,0,2)
  else if l.next≥1099511627776∨(l.full=true∧l.curN=lastN) then (m,l,0,12)
  else
    let y:=if l.full then syncL m l else (m,l,0)
    if y.2.2≠0 then (y.1,y.2.1,0,y.2.2)
    else
      let n:=if l.full then l.curN+1 else l.curN
      let a:=appendM y.1 (fN n) (frameN p)
      if a.2≠0 then (a.1,y.2.1,0,a.2)
      else
        let ss:=if l.segs=[]∨l.full=true then l.segs++[⟨n,l.next,0,[]⟩] else l.segs
        (a.1,{ y.2.1 with segs:=addL ss p },l.next,0)
def dropsL (l:LM) (to keep:Int):Nat:=(l.segs.take (l.segs.length - (max keep 1).toNat)).takeWhile (fun s=>decide (s.next≤min to l.safe)) |>.length
def layM (m:DM) (s:Sg):DM×Int:=
  let d:=dropM m newN
  if d.2≠0 then d else
  let a:=appendM d.1 newN (frameN (be8 s.n.toNat++be8 s.first.toNat))
  if a.2≠0 then a else
  let y:=syncM a.1 newN
  if y.2≠0 then y else renameM y.1 newN headN
def goneM:List Sg→DM→DM×Int
  | [],m=>(m,0)
  | s::r,m=>if (removeM m (fN s.n)).2≠0 then removeM m (fN s.n) else goneM r (removeM m (fN s.n)).1
def trimL (m:DM) (l:LM) (to keep:Int):DM×LM×Int:=
  if m.down then (m,l,10)
  else if dropsL l to keep=0 then (m,l,0)
  else
    let y:=layM m ((l.segs[dropsL l to keep]?).getD ⟨0,0,0,[]⟩)
    if y.2≠0 then (y.1,l,y.2)
    else
      let g:=goneM (l.segs.take (dropsL l to keep)) y.1
      if g.2≠0 then (g.1,l,g.2) else (g.1,{ l with segs:=l.segs.drop (dropsL l to keep) },0)
def getL (l:LM) (n:Int):List UInt8×Int:=
  if n<l.lo then ([],31)
  else match l.segs.find? fun s=>decide (n<s.next) with
    | some s=>((s.ps[(n - s.first).toNat]?).getD [],0)
    | none=>([],6)
end Go.Cx
namespace Go.Cx
open Go Go.Cf
set_option linter.unusedVariables false
set_option maxRecDepth 100000
theorem fK_list (n:Int):fK n=preL++Lib.itoa n:=by unfold fK fN;rw [BA_toList]
theorem itoa_pos {n:Nat}(h:1≤n):Lib.itoa (n:Int)=Lib.decDigits n:=by unfold Lib.itoa;rw [if_neg (by omega),Int.toNat_natCast]
theorem itoa_inj {a b:Nat}(ha:1≤a) (hb:1≤b) (h:Lib.itoa (a:Int)=Lib.itoa (b:Int)):a=b:=by
  rw [itoa_pos ha,itoa_pos hb] at h
  have h1:=(dec_facts a a (Nat.le_refl _)).2.2.1
  have h2:=(dec_facts b b (Nat.le_refl _)).2.2.1
  rw [h,h2] at h1;exact h1.symm
theorem fK_inj {a b:Nat}(ha:1≤a) (hb:1≤b) (h:fK (a:Int)=fK (b:Int)):a=b:=by
  rw [fK_list,fK_list] at h
  exact itoa_inj ha hb (List.append_cancel_left h)
theorem fK_head (n:Int):fK n≠headN.toList:=by
  rw [fK_list];unfold headN;rw [BA_toList]
  intro h
  have:=congrArg (fun l=>l[0]?) h
  simp [preL] at this
theorem fK_new (n:Int):fK n≠newN.toList:=by
  rw [fK_list];unfold newN;rw [BA_toList]
  intro h
  have:=congrArg (fun l=>l[0]?) h
  simp [preL] at this
theorem dec_len_pos (n:Nat):1≤(Lib.decDigits n).length:=List.length_pos_iff.2 (dec_facts n n (Nat.le_refl _)).1
theorem fN_isFile {n:Nat}(h1:1≤n) (h2:n≤999999999999):isFileB (fN (n:Int)).data.toList=true:=by
  unfold fN
  rw [BA_list,itoa_pos h1]
  obtain ⟨f1,f2,f3,f4,f5⟩:=dec_facts n n (Nat.le_refl _)
  have hl:=dec_len 11 n (by omega)
  have hp:=dec_len_pos n
  have hne:=f5 h1
  unfold isFileB
  simp only [Bool.and_eq_true,decide_eq_true_eq,Bool.not_eq_true',beq_eq_false_iff_ne,ne_eq,beq_iff_eq,List.length_append]
  have e4:preL.length=4:=rfl
  refine ⟨⟨⟨⟨by omega,by omega⟩,?_⟩,?_⟩,?_⟩
  · rw [←e4,List.take_left]
  · rw [List.getElem?_append_right (by omega)]
    exact hne
  · rw [←e4,List.drop_left];exact f2
theorem fN_named {n:Nat}(h1:1≤n) (h2:n≤999999999999):namedB (fN (n:Int))=true:=by
  have:=fN_isFile h1 h2
  unfold isFileB at this
  simp only [Bool.and_eq_true,decide_eq_true_eq] at this
  have e:(fN (n:Int)).data.toList.length=(fN (n:Int)).size:=by rw [Array.length_toList];rfl
  unfold namedB
  simp only [Bool.and_eq_true,decide_eq_true_eq]
  omega
theorem isFile_key {nm:ByteArray}{n:Int}(h:nm.toList=fK n):nm=fN n:=ba_toList_inj h
def segsFrom:Int→Int→List (List (List UInt8))→List Sg
  | _,_,[]=>[]
  | n,f,g::r=>⟨n,f,((catF g).length:Int),g⟩::segsFrom (n+1) (f+g.length) r
theorem segsFrom_len:∀ (gs:List (List (List UInt8))) (n f:Int),(segsFrom n f gs).length=gs.length
  | [],_,_=>rfl
  | g::r,n,f=>by simp [segsFrom,segsFrom_len r]
theorem segsFrom_app:∀ (gs hs:List (List (List UInt8))) (n f:Int),segsFrom n f (gs++hs)=segsFrom n f gs++segsFrom (n+gs.length) (f+gs.flatten.length) hs
  | [],hs,n,f=>by simp [segsFrom]
  | g::r,hs,n,f=>by
    simp only [List.cons_append,segsFrom,segsFrom_app r hs,List.flatten_cons,List.length_append,List.length_cons]
    rw [show n+1+(r.length:Int)=n+((r.length+1:Nat):Int) by omega,show f+(g.length:Int)+(r.flatten.length:Int)=f+((g.length+r.flatten.length:Nat):Int) by omega]
theorem segsFrom_get {gs:List (List (List UInt8))}{n f:Int}{i:Nat}{g:List (List UInt8)}(h:gs[i]? = some g):(segsFrom n f gs)[i]? = some ⟨n+i,f+(gs.take i).flatten.length,((catF g).length:Int),g⟩:=by
  have hi:=(List.getElem?_eq_some_iff.1 h).1
  have e:gs=gs.take i++g::gs.drop (i+1):=by
    rw [←(List.getElem?_eq_some_iff.1 h).2,←List.drop_eq_getElem_cons hi,List.take_append_drop]
  conv=>lhs;rw [e,segsFrom_app]
  have hl:(segsFrom n f (gs.take i)).length=i:=by rw [segsFrom_len,List.length_take];omega
  rw [List.getElem?_append_right (by omega),hl,Nat.sub_self]
  simp only [segsFrom,List.getElem?_cons_zero,Option.some.injEq,Sg.mk.injEq,and_true,List.length_take]
  omega
theorem segsFrom_last {gs:List (List (List UInt8))}{n f:Int}{g:List (List UInt8)}:(segsFrom n f (gs++[g])).getLast? = some ⟨n+gs.length,f+gs.flatten.length,((catF g).length:Int),g⟩:=by
  rw [segsFrom_app]
  simp [segsFrom]
abbrev logOf (gs:List (List (List UInt8))) (safe:Int):LM:=⟨1,0,segsFrom 1 0 gs,safe⟩
theorem next_of (gs:List (List (List UInt8))) (safe:Int):(logOf gs safe).next=gs.flatten.length:=by
  unfold LM.next LM.cur
  rcases List.eq_nil_or_concat gs with rfl | ⟨hs,g,rfl⟩
  · rfl
  · rw [List.concat_eq_append]
    simp only
    rw [segsFrom_last]
    simp only [Sg.next,List.flatten_append,List.length_append,List.flatten_cons,List.flatten_nil,List.append_nil]
    omega
theorem set_names {fs:List DF}{i:Nat}{f g:DF}(hf:fs[i]? = some f) (e:g.nm=f.nm):∀ x∈fs.set i g,∃ y∈fs,y.nm=x.nm:=by
  intro x hx
  rcases List.mem_or_eq_of_mem_set hx with hx | rfl
  · exact ⟨x,hx,rfl⟩
  · exact ⟨f,List.mem_of_getElem? hf,e.symm⟩
end Go.Cx
namespace Go.Cx
open Go Go.Cf
set_option linter.unusedVariables false
set_option maxRecDepth 100000
structure Rel (m:DM) (gs:List (List (List UInt8))) (safe:Nat):Prop where
  inv:DInv m
  files:∀ (i:Nat) (g:List (List UInt8)),gs[i]? = some g→∃ f,getF m.fs (fK ((i+1:Nat):Int))=some f∧f.b=catF g∧f.sy=(catF (g.take (safe - (gs.take i).flatten.length))).length
  small:∀ g∈gs,∀ p∈g,p.length≤1024
  mine:∀ f∈m.fs,isFileB f.nm.data.toList=true→∃ i:Nat,i<gs.length∧f.key=fK ((i+1:Nat):Int)
  few:gs.length≤64
  head:getF m.fs headN.toList=none
  new:getF m.fs newN.toList=none
  total:safe≤gs.flatten.length
  last:∀ gs' g,gs=gs'++[g]→gs'.flatten.length≤safe
theorem take_flat_len (gs:List (List (List UInt8))) (i:Nat):(gs.take i).flatten.length≤gs.flatten.length:=by
  have:gs.flatten=(gs.take i).flatten++(gs.drop i).flatten:=by rw [←List.flatten_append,List.take_append_drop]
  rw [this,List.length_append];omega
end Go.Cx
namespace Go.Cx
open Go Go.Cf
set_option linter.unusedVariables false
set_option maxRecDepth 100000
theorem nodup_sub_len {α:Type} [DecidableEq α]:∀ {l m:List α},l.Nodup→(∀ x∈l,x∈m)→l.length≤m.length
  | [],m,_,_=>by simp
  | x::l,m,hn,hs=>by
    obtain ⟨h1,h2⟩:=List.nodup_cons.1 hn
    have hx:=hs x (by simp)
    have:=nodup_sub_len (l:=l) (m:=m.erase x) h2 fun y hy=>by
      have hne:y≠x:=fun e=>h1 (e ▸ hy)
      exact (List.mem_erase_of_ne hne).2 (hs y (by simp [hy]))
    rw [List.length_erase_of_mem hx] at this
    have:=List.length_pos_of_mem hx
    simp;omega
theorem keys_few {fs:List DF}{n:Nat}(h:∀ i,i<n→(getF fs (fK ((i+1:Nat):Int))).isSome=true):n≤fs.length:=by
  have:=nodup_sub_len (l:=(List.range n).map fun i=>fK ((i+1:Nat):Int)) (m:=fs.map DF.key) (by
    refine List.pairwise_map.2 ?_
    exact List.nodup_range.imp fun {a b} hab e=>hab (by have:=fK_inj (by omega) (by omega) e;omega)) (fun x hx=>by
    obtain ⟨i,hi,rfl⟩:=List.mem_map.1 hx
    have:=h i (List.mem_range.1 hi)
    obtain ⟨f,hf⟩:=Option.isSome_iff_exists.1 this
    exact List.mem_map.2 ⟨f,getF_mem hf,getF_key hf⟩)
  simpa using this
theorem earlier {gs:List (List (List UInt8))}{i:Nat}{g:List (List UInt8)}(hg:gs[i]? = some g):(gs.take i).flatten.length+g.length≤gs.flatten.length:=by
  have hlt:=(List.getElem?_eq_some_iff.1 hg).1
  have e:gs=gs.take i++g::gs.drop (i+1):=by
    rw [←(List.getElem?_eq_some_iff.1 hg).2,←List.drop_eq_getElem_cons hlt,List.take_append_drop]
  conv=>rhs;rw [e]
  simp only [List.flatten_append,List.flatten_cons,List.length_append];omega
theorem earlier2 {gs:List (List (List UInt8))}{i:Nat}{g gl:List (List UInt8)}(hg:gs[i]? = some g):((gs++[gl]).take i).flatten.length+g.length≤gs.flatten.length:=by
  rw [List.take_append_of_le_length (by have:=(List.getElem?_eq_some_iff.1 hg).1;omega)]
  exact earlier hg
theorem cur_of {hs:List (List (List UInt8))}{g:List (List UInt8)}{safe:Int}:(logOf (hs++[g]) safe).cur=some ⟨((hs.length+1:Nat):Int),(hs.flatten.length:Int),((catF g).length:Int),g⟩:=by
  unfold LM.cur
  simp only [segsFrom_last,Option.some.injEq,Sg.mk.injEq,and_true]
  omega
theorem set_same {fs:List DF}{i:Nat}{f g:DF}(h:fs[i]? = some f) (hb:g.b=f.b):usedN (fs.set i g)=usedN fs:=by
  have:=usedN_set (g:=g) h
  rw [hb] at this;omega
theorem Rel.down {m:DM}{gs:List (List (List UInt8))}{safe:Nat}(h:Rel m gs safe) (b:Bool):Rel { m with down:=b } gs safe:=
  ⟨⟨h.inv.sorted,h.inv.names,h.inv.syn,h.inv.used,h.inv.room,h.inv.len,h.inv.left⟩,h.files,h.small,h.mine,h.few,h.head,h.new,h.total,h.last⟩
theorem Rel.fails {m:DM}{gs:List (List (List UInt8))}{safe:Nat}{x:DM×Int}(h:Rel m gs safe) (hf:Fails m x):x.2=10∧x.1.down=true∧x.1.room=m.room∧Rel x.1 gs safe:=by rw [hf.2];exact ⟨rfl,rfl,rfl,h.down true⟩
structure SyncR (m:DM) (gs:List (List (List UInt8))) (safe:Nat) (x:DM×LM×Int):Prop where
  room:x.1.room=m.room
  used:usedN x.1.fs=usedN m.fs
  len:x.1.fs.length=m.fs.length
  or:(x.2.2=10∧m.armed=true∧x.1.down=true∧x.2.1=logOf gs safe∧Rel x.1 gs safe) ∨
    (x.2.2=0∧x.1.down=false∧(m.armed=false→x.1.armed=false)∧x.2.1=logOf gs gs.flatten.length∧Rel x.1 gs gs.flatten.length)
theorem Rel.sync {m:DM}{gs:List (List (List UInt8))}{safe:Nat}(h:Rel m gs safe) (hd:m.down=false):SyncR m gs safe (syncL m (logOf gs safe)):=by
  unfold syncL
  rw [if_neg (by rw [hd];decide),next_of]
  by_cases hs:safe=gs.flatten.length
  · rw [if_pos (by simp only;omega)]
    refine ⟨rfl,rfl,rfl,.inr ⟨rfl,hd,id,by rw [hs],hs ▸ h⟩⟩
  rw [if_neg (by simp only;omega)]
  rcases List.eq_nil_or_concat gs with rfl | ⟨hs',g,rfl⟩
  · have:=h.total
    simp at this hs;omega
  rw [List.concat_eq_append] at h hs ⊢
  have hgl:(hs'++[g])[hs'.length]? = some g:=by simp
  obtain ⟨f,f1,f2,f3⟩:=h.files hs'.length g hgl
  rw [cur_of]
  simp only [Option.map_some,Option.getD_some]
  rcases sync_or h.inv hd f1 with hx | hx
  · obtain ⟨y1,y2,y3,y4⟩:=h.fails hx
    rw [if_pos (by rw [y1];decide)]
    refine ⟨y3,?_,?_,.inl ⟨y1,hx.1,y2,rfl,y4⟩⟩
    · rw [hx.2]
    · rw [hx.2]
  · rw [if_neg (by rw [hx.err];decide)]
    have hat:=(getF_at h.inv.sorted f1).2
    refine ⟨hx.room,?_,?_,.inr ⟨rfl,hx.down.trans hd,hx.armed,rfl,⟨sync_inv h.inv _,fun i g' hg'=>?_,h.small,fun f' hf' hm=>?_,h.few,?_,?_,Nat.le_refl _,fun gs' g' e=>?_⟩⟩⟩
    · rw [hx.files];exact set_same hat rfl
    · rw [hx.files,List.length_set]
    · rw [hx.files,getF_set (g:=⟨f.nm,f.b,(f.b.length:Int)⟩) h.inv.sorted hat rfl,getF_key f1]
      by_cases e:i=hs'.length
      · subst e
        obtain rfl:g'=g:=by simpa using hg'.symm
        refine ⟨_,if_pos rfl,f2,?_⟩
        simp only
        rw [f2,List.take_of_length_le]
        simp only [List.take_left,List.flatten_append,List.flatten_cons,List.flatten_nil,List.append_nil,List.length_append]
        omega
      · rw [if_neg (fun k=>e (by have:=fK_inj (by omega) (by omega) k;omega))]
        obtain ⟨f',e1,e2,e3⟩:=h.files i g' hg'
        refine ⟨f',e1,e2,?_⟩
        have hlt:i<hs'.length:=by
          have:=(List.getElem?_eq_some_iff.1 hg').1
          simp at this;omega
        have he:=earlier2 (gl:=g) (by rw [List.getElem?_append_left hlt] at hg';exact hg')
        have hl:=h.last hs' g rfl
        rw [e3,List.take_of_length_le (by omega),List.take_of_length_le]
        have:=take_flat_len (hs'++[g]) hs'.length
        simp only [List.take_left] at this
        omega
    · rw [hx.files] at hf'
      obtain ⟨y,hy,e⟩:=set_names hat (g:={ f with sy:=(f.b.length:Int) }) rfl f' hf'
      obtain ⟨i,hi,k⟩:=h.mine y hy (by rw [e];exact hm)
      refine ⟨i,hi,?_⟩
      simp only [DF.key] at k ⊢
      rw [←e];exact k
    · rw [hx.files,getF_set (g:=⟨f.nm,f.b,(f.b.length:Int)⟩) h.inv.sorted hat rfl,getF_key f1,if_neg (fun k=>fK_head _ k.symm)];exact h.head
    · rw [hx.files,getF_set (g:=⟨f.nm,f.b,(f.b.length:Int)⟩) h.inv.sorted hat rfl,getF_key f1,if_neg (fun k=>fK_new _ k.symm)];exact h.new
    · rw [e,List.flatten_append,List.length_append];omega
structure AppR (m:DM) (gs:List (List (List UInt8))) (safe:Nat) (p:List UInt8) (x:DM×LM×Int×Int):Prop where
  room:x.1.room=m.room
  or:(x.2.2.2≠0∧x.2.2.1=0∧usedN x.1.fs=usedN m.fs∧x.1.fs.length=m.fs.length∧(∃ safe',safe≤safe'∧x.2.1=logOf gs safe'∧Rel x.1 gs safe') ∧
      ((x.2.2.2=10∧m.armed=true∧x.1.down=true)∨(x.2.2.2=9∧x.1.down=false∧(m.armed=false→x.1.armed=false)∧(m.fs.length=64∨(6+p.length:Int)>m.room - usedN m.fs)))) ∨
    (x.2.2.2=0∧x.2.2.1=gs.flatten.length∧x.1.down=false∧(m.armed=false→x.1.armed=false)∧usedN x.1.fs=usedN m.fs+6+p.length ∧
      ∃ gs' safe',safe≤safe'∧gs'.flatten=gs.flatten++[p]∧x.2.1=logOf gs' safe'∧Rel x.1 gs' safe')
theorem mine_app {fs:List DF}(hs:Sorted fs) (nm:ByteArray) (b:List UInt8):Sorted (appFs fs nm b)→∀ f∈appFs fs nm b,(∃ g∈fs,g.nm=f.nm)∨f.nm=nm:=by
  intro hs' f hf
  have h:=(getF_iff hs').2 ⟨hf,rfl⟩
  rw [getF_app hs] at h
  split at h
  · rename_i e;exact .inr (ba_toList_inj e)
  · exact .inl ⟨f,getF_mem h,rfl⟩
theorem Rel.append_on {m:DM}{hs:List (List (List UInt8))}{g:List (List UInt8)}{safe:Nat}(h:Rel m (hs++[g]) safe) {p:List UInt8}(hp:p.length≤1024) {m':DM}(hI:DInv m')
    (hfs:m'.fs=appFs m.fs (fN ((hs.length+1:Nat):Int)) (frameN p)):Rel m' (hs++[g++[p]]) safe:=by
  have hgl:(hs++[g])[hs.length]? = some g:=by simp
  obtain ⟨f,f1,f2,f3⟩:=h.files hs.length g hgl
  have hsafe:=h.total
  have hlast:=h.last hs g rfl
  simp only [List.take_left] at f3
  have hg:∀ k,getF m'.fs k=if k=fK ((hs.length+1:Nat):Int) then some { f with b:=f.b++frameN p } else getF m.fs k:=fun k=>by
    rw [hfs,getF_app h.inv.sorted,f1];rfl
  refine ⟨hI,fun i g' hg'=>?_,fun g' hg'=>?_,fun f' hf' hm=>?_,?_,?_,?_,?_,fun gs' g' e=>?_⟩
  · rw [hg]
    by_cases e:i=hs.length
    · subst e
      obtain rfl:g'=g++[p]:=by simpa using hg'.symm
      refine ⟨_,if_pos rfl,by simp only [f2,catF_snoc],?_⟩
      simp only [List.take_left]
      rw [f3,List.take_append_of_le_length]
      simp only [List.flatten_append,List.flatten_cons,List.flatten_nil,List.append_nil,List.length_append] at hsafe;omega
    · rw [if_neg (fun k=>e (by have:=fK_inj (by omega) (by omega) k;omega))]
      have hlt:i<hs.length:=by
        have:=(List.getElem?_eq_some_iff.1 hg').1
        simp at this;omega
      rw [List.getElem?_append_left hlt] at hg'
      obtain ⟨f',e1,e2,e3⟩:=h.files i g' (by rw [List.getElem?_append_left hlt];exact hg')
      refine ⟨f',e1,e2,?_⟩
      rw [e3,List.take_append_of_le_length (by omega),List.take_append_of_le_length (by omega)]
  · rcases List.mem_append.1 hg' with hg' | hg'
    · exact h.small g' (by simp [hg'])
    · obtain rfl:g'=g++[p]:=by simpa using hg'
      intro q hq
      rcases List.mem_append.1 hq with hq | hq
      · exact h.small g (by simp) q hq
      · obtain rfl:q=p:=by simpa using hq
        exact hp
  · have hs':=hI.sorted
    rw [hfs] at hf' hs'
    rcases mine_app h.inv.sorted _ _ hs' f' hf' with ⟨y,hy,e⟩ | e
    · obtain ⟨i,hi,k⟩:=h.mine y hy (by rw [e];exact hm)
      refine ⟨i,by simpa using hi,?_⟩
      simp only [DF.key] at k ⊢
      rw [←e];exact k
    · exact ⟨hs.length,by simp,by simp only [DF.key];rw [e]⟩
  · have:=h.few;simpa using this
  · rw [hg,if_neg (fun k=>fK_head _ k.symm)];exact h.head
  · rw [hg,if_neg (fun k=>fK_new _ k.symm)];exact h.new
  · simp only [List.flatten_append,List.flatten_cons,List.flatten_nil,List.append_nil,List.length_append] at hsafe ⊢;simp only [List.length_cons,List.length_nil];omega
  · have:=List.append_inj' e rfl
    rw [←this.1];exact hlast
theorem Rel.append_new {m:DM}{gs:List (List (List UInt8))}(h:Rel m gs gs.flatten.length) {p:List UInt8}(hp:p.length≤1024) {m':DM}(hI:DInv m')
    (hfs:m'.fs=appFs m.fs (fN ((gs.length+1:Nat):Int)) (frameN p)):Rel m' (gs++[[p]]) gs.flatten.length:=by
  have hno:getF m.fs (fK ((gs.length+1:Nat):Int))=none:=by
    refine getF_none.2 fun f hf hk=>?_
    have hfew:=h.few
    obtain ⟨i,hi,e⟩:=h.mine f hf (by rw [isFile_key hk];exact fN_isFile (by omega) (by omega))
    have:=fK_inj (by omega) (by omega) (hk.symm.trans e)
    omega
  have hg:∀ k,getF m'.fs k=if k=fK ((gs.length+1:Nat):Int) then some ⟨fN ((gs.length+1:Nat):Int),frameN p,0⟩ else getF m.fs k:=fun k=>by
    rw [hfs,getF_app h.inv.sorted,hno];rfl
  have hfiles:∀ (i:Nat) (g':List (List UInt8)),(gs++[[p]])[i]? = some g'→∃ f,getF m'.fs (fK ((i+1:Nat):Int))=some f∧f.b=catF g'∧f.sy=(catF (g'.take (gs.flatten.length - ((gs++[[p]]).take i).flatten.length))).length:=fun i g' hg'=>by
    rw [hg]
    by_cases e:i=gs.length
    · subst e
      obtain rfl:g'=[p]:=by simpa using hg'.symm
      refine ⟨_,if_pos rfl,by simp [catF],?_⟩
      simp [List.take_left,catF]
    · rw [if_neg (fun k=>e (by have:=fK_inj (by omega) (by omega) k;omega))]
      have hlt:i<gs.length:=by
        have:=(List.getElem?_eq_some_iff.1 hg').1
        simp at this;omega
      rw [List.getElem?_append_left hlt] at hg'
      obtain ⟨f',e1,e2,e3⟩:=h.files i g' hg'
      refine ⟨f',e1,e2,?_⟩
      rw [e3,List.take_append_of_le_length (by omega)]
  refine ⟨hI,hfiles,fun g' hg'=>?_,fun f' hf' hm=>?_,?_,?_,?_,?_,fun gs' g' e=>?_⟩
  · rcases List.mem_append.1 hg' with hg' | hg'
    · exact h.small g' hg'
    · obtain rfl:g'=[p]:=by simpa using hg'
      intro q hq
      obtain rfl:q=p:=by simpa using hq
      exact hp
  · have hs':=hI.sorted
    rw [hfs] at hf' hs'
    rcases mine_app h.inv.sorted _ _ hs' f' hf' with ⟨y,hy,e⟩ | e
    · obtain ⟨i,hi,k⟩:=h.mine y hy (by rw [e];exact hm)
      refine ⟨i,by simp;omega,?_⟩
      simp only [DF.key] at k ⊢
      rw [←e];exact k
    · exact ⟨gs.length,by simp,by simp only [DF.key];rw [e]⟩
  · have:=keys_few (fs:=m'.fs) (n:=(gs++[[p]]).length) fun i hi=>by
      obtain ⟨f,hf,_⟩:=hfiles i _ (List.getElem?_eq_getElem hi)
      rw [hf];rfl
    have:=hI.len
    omega
  · rw [hg,if_neg (fun k=>fK_head _ k.symm)];exact h.head
  · rw [hg,if_neg (fun k=>fK_new _ k.symm)];exact h.new
  · simp
  · have:=List.append_inj' e rfl
    rw [←this.1];exact Nat.le_refl _
theorem full_of {hs:List (List (List UInt8))}{g:List (List UInt8)}{safe:Int}:(logOf (hs++[g]) safe).full=decide (((catF g).length:Int)≥1024)∧(logOf (hs++[g]) safe).curN=((hs.length+1:Nat):Int):=by
  unfold LM.full LM.curN
  rw [cur_of]
  exact ⟨rfl,rfl⟩
theorem add_new (gs:List (List (List UInt8))) (p:List UInt8):addL (segsFrom 1 0 gs++[⟨((gs.length+1:Nat):Int),(gs.flatten.length:Int),0,[]⟩]) p=segsFrom 1 0 (gs++[[p]]):=by
  unfold addL
  rw [List.getLast?_concat,segsFrom_app]
  simp only [List.dropLast_concat,segsFrom,List.append_cancel_left_eq,List.cons.injEq,Sg.mk.injEq,and_true,List.nil_append]
  refine ⟨by omega,by omega,?_⟩
  simp [catF]
theorem add_on (hs:List (List (List UInt8))) (g:List (List UInt8)) (p:List UInt8):addL (segsFrom 1 0 (hs++[g])) p=segsFrom 1 0 (hs++[g++[p]]):=by
  unfold addL
  rw [segsFrom_last,segsFrom_app,segsFrom_app]
  simp only [segsFrom,List.dropLast_concat,List.append_cancel_left_eq,List.cons.injEq,Sg.mk.injEq,and_true,true_and]
  rw [catF_snoc,List.length_append];omega
theorem Rel.append {m:DM}{gs:List (List (List UInt8))}{safe:Nat}(h:Rel m gs safe) (hd:m.down=false) {p:List UInt8}(hp:p.length≤1024) (ht:gs.flatten.length<1000000):AppR m gs safe p (appendL m (logOf gs safe) p):=by
  have hfew:=h.few
  have hfl:=frame_len p
  -- a new segment
  have mk:∀ (m0:DM) (safe0:Nat),safe≤safe0→Rel m0 gs gs.flatten.length→safe0=gs.flatten.length→m0.down=false→m0.room=m.room→usedN m0.fs=usedN m.fs→m0.fs.length=m.fs.length→(m.armed=false→m0.armed=false)→(m0.armed=true→m.armed=true) →
      AppR m gs safe p (if (appendM m0 (fN ((gs.length+1:Nat):Int)) (frameN p)).2≠0 then ((appendM m0 (fN ((gs.length+1:Nat):Int)) (frameN p)).1,logOf gs safe0,0,(appendM m0 (fN ((gs.length+1:Nat):Int)) (frameN p)).2)
        else ((appendM m0 (fN ((gs.length+1:Nat):Int)) (frameN p)).1,{ logOf gs safe0 with segs:=addL (segsFrom 1 0 gs++[⟨((gs.length+1:Nat):Int),(gs.flatten.length:Int),0,[]⟩]) p },(gs.flatten.length:Int),0)):=by
    intro m0 safe0 hle hR hsf hd0 hr0 hu0 hl0 ha0 ha1
    subst hsf
    rcases append_or (nm:=fN ((gs.length+1:Nat):Int)) (b:=frameN p) hR.inv (fN_named (by omega) (by omega)) hd0 with ⟨e,why⟩ | hx | ⟨hx,h1,h2⟩
    · rw [if_pos (by rw [e];simp),e]
      refine ⟨hr0,.inl ⟨by simp,rfl,hu0,hl0,⟨_,hle,rfl,hR⟩,.inr ⟨rfl,hd0,ha0,?_⟩⟩⟩
      rcases why with ⟨_,e⟩ | e
      · exact .inl (by omega)
      · exact .inr (by rw [hr0,hu0] at e;omega)
    · obtain ⟨y1,y2,y3,y4⟩:=hR.fails hx
      rw [if_pos (by rw [y1];decide)]
      refine ⟨y3.trans hr0,.inl ⟨by rw [y1];simp,rfl,?_,?_,⟨_,hle,rfl,y4⟩,.inl ⟨y1,ha1 hx.1,y2⟩⟩⟩
      · rw [hx.2];exact hu0
      · rw [hx.2];exact hl0
    · rw [if_neg (by rw [hx.err];decide),add_new]
      refine ⟨hx.room.trans hr0,.inr ⟨rfl,rfl,hx.down.trans hd0,fun ha=>hx.armed (ha0 ha),?_,gs++[[p]],gs.flatten.length,hle,by simp,rfl,hR.append_new hp (append_inv hR.inv _ _) hx.files⟩⟩
      simp only
      rw [hx.files,used_app hR.inv.sorted,hu0];omega
  unfold appendL
  rw [if_neg (by rw [hd];decide),if_neg (by omega),next_of]
  rcases List.eq_nil_or_concat gs with rfl | ⟨hs,g,rfl⟩
  · have h0:safe=0:=by have:=h.total;simpa using this
    subst h0
    rw [if_neg (by simp [LM.full,LM.cur,segsFrom])]
    have e1:(logOf [] ((0:Nat):Int)).full=false:=rfl
    have e2:(logOf [] ((0:Nat):Int)).curN=1:=rfl
    rw [e1,e2]
    simp only [Bool.false_eq_true,if_false,segsFrom,true_or,if_true,ne_eq,not_true_eq_false]
    exact mk m 0 (Nat.le_refl _) h rfl hd rfl rfl rfl id id
  rw [List.concat_eq_append] at h mk hfew ht ⊢
  obtain ⟨e1,e2⟩:=full_of (hs:=hs) (g:=g) (safe:=safe)
  rw [e1,e2]
  have hne:¬ (segsFrom 1 0 (hs++[g])=[]):=by
    intro e
    have:=congrArg List.length e
    rw [segsFrom_len] at this
    simp at this
  rw [if_neg (by simp only [List.length_append,List.length_singleton] at hfew;simp only [lastN];rintro (h | ⟨_,h⟩)<;>omega)]
  by_cases hf:((catF g).length:Int)≥1024
  · rw [decide_eq_true hf]
    simp only [if_true,or_true]
    have hsy:=h.sync hd
    rcases hsy.or with ⟨a1,a2,a3,a4,a5⟩ | ⟨a1,a2,a3,a4,a5⟩
    · rw [if_pos (by rw [a1];decide)]
      exact ⟨hsy.room,.inl ⟨by rw [a1];simp,rfl,hsy.used,hsy.len,⟨safe,Nat.le_refl _,a4,a5⟩,.inl ⟨a1,a2,a3⟩⟩⟩
    · rw [if_neg (by rw [a1];decide),a4]
      have:=mk _ (hs++[g]).flatten.length h.total a5 rfl a2 hsy.room hsy.used hsy.len a3 (fun ha=>by
        cases hm:m.armed with
        | true=>rfl
        | false=>rw [a3 hm] at ha;cases ha)
      have e3:(((hs++[g]).length+1:Nat):Int)=((hs.length+1:Nat):Int)+1:=by simp
      rw [e3] at this
      exact this
  · rw [decide_eq_false hf]
    simp only [Bool.false_eq_true,if_false,or_false,hne,ne_eq,not_true_eq_false]
    simp at hfew
    rcases append_or (nm:=fN ((hs.length+1:Nat):Int)) (b:=frameN p) h.inv (fN_named (by omega) (by omega)) hd with ⟨e,why⟩ | hx | ⟨hx,h1,h2⟩
    · rw [e]
      refine ⟨rfl,.inl ⟨by simp,rfl,rfl,rfl,⟨_,Nat.le_refl _,rfl,h⟩,.inr ⟨rfl,hd,id,?_⟩⟩⟩
      rcases why with ⟨_,e⟩ | e
      · exact .inl e
      · exact .inr (by omega)
    · obtain ⟨y1,y2,y3,y4⟩:=h.fails hx
      rw [if_pos (by rw [y1];decide)]
      refine ⟨y3,.inl ⟨by rw [y1];simp,rfl,?_,?_,⟨_,Nat.le_refl _,rfl,y4⟩,.inl ⟨y1,hx.1,y2⟩⟩⟩
      · rw [hx.2]
      · rw [hx.2]
    · rw [if_neg (by rw [hx.err];decide),add_on]
      refine ⟨hx.room,.inr ⟨rfl,rfl,hx.down.trans hd,hx.armed,?_,hs++[g++[p]],safe,Nat.le_refl _,by simp,rfl,h.append_on hp (append_inv h.inv _ _) hx.files⟩⟩
      simp only
      rw [hx.files,used_app h.inv.sorted];omega
end Go.Cx
namespace Go.Cx
open Go Go.Cf
set_option linter.unusedVariables false
set_option maxRecDepth 100000
structure LInv (l:LM):Prop where
  n:1≤l.n∧l.n≤2000000000000
  first:0≤l.first∧l.first≤2199023255552
  segs:∀ s∈l.segs,(1≤s.n∧s.n≤2000000000000)∧(0≤s.first∧s.first≤2199023255552)∧(0≤s.size∧s.size≤16777216)∧(s.ps.length:Int)≤s.size∧∀ p∈s.ps,p.length≤1024
  few:l.segs.length≤64
  safe:0≤l.safe∧l.safe≤4398046511104
  chain:∀ (k:Nat) s s',l.segs[k]? = some s→l.segs[k+1]? = some s'→s'.first=s.next
theorem LInv.next {l:LM}(h:LInv l):0≤l.next∧l.next≤4000000000000:=by
  unfold LM.next LM.cur
  cases e:l.segs.getLast? with
  | none=>have:=h.first;simp only;omega
  | some s=>
    obtain ⟨h1,h2,h3,h4,_⟩:=h.segs s (List.mem_of_getLast? e)
    simp only [Sg.next];omega
theorem set_some {fs:List DF}(hs:Sorted fs) {i:Nat}{f g:DF}(hf:fs[i]? = some f) (hk:g.key=f.key) (k:Key):(getF (fs.set i g) k).isSome=(getF fs k).isSome:=by
  rw [getF_set hs hf hk]
  split
  · rename_i e
    rw [e,(getF_iff hs).2 ⟨List.mem_of_getElem? hf,rfl⟩];rfl
  · rfl
theorem on_some {m:DM}{nm:ByteArray}{g:Nat→DF→DM→DM×Int}(hI:DInv m) (h:∀ i f,m.fs[i]? = some f→∀ k,(getF (g i f m).1.fs k).isSome=(getF m.fs k).isSome) (k:Key):(getF (onFile m nm g).1.fs k).isSome=(getF m.fs k).isSome:=by
  unfold onFile
  split
  · rfl
  split
  · rfl
  · rename_i ht
    exact h _ _ (getD_there (by simpa using ht)).1 k
theorem spent_some {m:DM}{φ:List DF→List DF}(h:∀ k,(getF (φ m.fs) k).isSome=(getF m.fs k).isSome) (k:Key):(getF (spent m fun m=>{ m with fs:=φ m.fs }).1.fs k).isSome=(getF m.fs k).isSome:=by
  rcases spent_or m φ with hx | hx
  · rw [hx.2]
  · rw [hx.files];exact h k
theorem sync_some {m:DM}(hI:DInv m) (nm:ByteArray) (k:Key):(getF (syncM m nm).1.fs k).isSome=(getF m.fs k).isSome:=
  on_some hI (fun i f hf k=>spent_some (φ:=fun fs=>fs.set i { f with sy:=f.b.length }) (fun k=>set_some (g:=⟨f.nm,f.b,(f.b.length:Int)⟩) hI.sorted hf rfl k) k) k
theorem trunc_some {m:DM}(hI:DInv m) (nm:ByteArray) (n:Int) (k:Key):(getF (truncM m nm n).1.fs k).isSome=(getF m.fs k).isSome:=by
  refine on_some hI (fun i f hf k=>?_) k
  split
  · rfl
  · exact spent_some (φ:=fun fs=>fs.set i { f with b:=f.b.take n.toNat,sy:=if n<f.sy then n else f.sy }) (fun k=>set_some (g:=⟨f.nm,f.b.take n.toNat,if n<f.sy then n else f.sy⟩) hI.sorted hf rfl k) k
theorem mend_inv {m:DM}(hI:DInv m) (n:Int):DInv (mendM m n).1:=by
  unfold mendM
  simp only
  generalize ht:(if (scanN (readM m (fN n)).1).2<(readM m (fN n)).1.length then truncM m (fN n) (scanN (readM m (fN n)).1).2 else (m,0))=t
  have hT:DInv t.1:=by
    rw [←ht]
    split
    · exact trunc_inv hI _ _
    · exact hI
  split
  · exact hT
  · exact sync_inv hT _
theorem mend_some {m:DM}(hI:DInv m) (n:Int) (k:Key):(getF (mendM m n).1.fs k).isSome=(getF m.fs k).isSome:=by
  unfold mendM
  simp only
  generalize ht:(if (scanN (readM m (fN n)).1).2<(readM m (fN n)).1.length then truncM m (fN n) (scanN (readM m (fN n)).1).2 else (m,0))=t
  have hT:DInv t.1∧(getF t.1.fs k).isSome=(getF m.fs k).isSome:=by
    rw [←ht]
    split
    · exact ⟨trunc_inv hI _ _,trunc_some hI _ _ k⟩
    · exact ⟨hI,rfl⟩
  split
  · exact hT.2
  · rw [sync_some hT.1];exact hT.2
theorem used_ge {fs:List DF}{f:DF}(h:f∈fs):f.b.length≤usedN fs:=by
  obtain ⟨i,hi⟩:=List.mem_iff_getElem?.1 h
  have:=usedN_erase hi
  omega
theorem read_len {m:DM}(hI:DInv m) (nm:ByteArray):(readM m nm).1.length≤16777216:=by
  cases h:getF m.fs nm.toList with
  | none=>rw [read_none hI h];simp
  | some f=>
    rw [read_some hI h]
    have:=used_ge (getF_mem h)
    have:=hI.used
    have:=hI.room
    simp only;omega
theorem read_some' {m:DM}(hI:DInv m) {nm:ByteArray}(h:(readM m nm).2=0):(getF m.fs nm.toList).isSome=true:=by
  cases e:getF m.fs nm.toList with
  | none=>rw [read_none hI e] at h;cases h
  | some f=>rfl
theorem scan_count:∀ (n:Nat) (b:List UInt8),b.length≤n→(scanN b).1.length≤(scanN b).2
  | 0,b,h=>by
    have hb:b=[]:=List.eq_nil_of_length_eq_zero (by omega)
    subst hb
    rw [scan_no (by decide)];simp
  | n+1,b,h=>by
    by_cases hg:(getN b).2.2=0
    · obtain ⟨a1,a2,a3,a4,_⟩:=getN_ok hg
      have hd:(b.drop (getN b).2.1).length=b.length - (getN b).2.1:=List.length_drop
      have:=scan_count n (b.drop (getN b).2.1) (by omega)
      rw [scan_ok hg]
      simp only [List.length_cons];omega
    · rw [scan_no hg];simp
structure ReadI (n0 f0:Int) (m:DM) (l:LM):Prop where
  inv:DInv m
  n:l.n=n0
  first:l.first=f0
  safe:l.safe=0
  segs:∀ (j:Nat) s,l.segs[j]? = some s→s.n=n0+j∧(getF m.fs (fK s.n)).isSome=true∧(0≤s.first∧s.first≤1099511627776+16777216*(j:Int))∧(0≤s.size∧s.size≤16777216)∧(s.ps.length:Int)≤s.size∧∀ p∈s.ps,p.length≤1024
  next:0≤l.next∧l.next≤1099511627776+16777216*(l.segs.length:Int)
  chain:∀ (k:Nat) s s',l.segs[k]? = some s→l.segs[k+1]? = some s'→s'.first=s.next
theorem next_snoc (l:LM) (s:Sg):({ l with segs:=l.segs++[s] }:LM).next=s.next:=by
  unfold LM.next LM.cur
  simp
theorem getLast_get {α:Type}{l:List α}{x:α}(h:l.getLast? = some x):l[l.length - 1]? = some x:=by
  rw [List.getLast?_eq_getElem?] at h;exact h
theorem next_of_last {l:LM}{s:Sg}(h:l.segs[l.segs.length - 1]? = some s):l.next=s.next:=by
  unfold LM.next LM.cur
  rw [List.getLast?_eq_getElem?,h]
theorem chain_snoc {l:LM}{x:Sg}(h:∀ (k:Nat) s s',l.segs[k]? = some s→l.segs[k+1]? = some s'→s'.first=s.next) (hx:x.first=l.next) :
    ∀ (k:Nat) s s',(l.segs++[x])[k]? = some s→(l.segs++[x])[k+1]? = some s'→s'.first=s.next:=by
  intro k s s' h1 h2
  have hk:=(List.getElem?_eq_some_iff.1 h2).1
  simp at hk
  rw [List.getElem?_append_left hk] at h1
  by_cases e:k+1<l.segs.length
  · rw [List.getElem?_append_left e] at h2
    exact h k s s' h1 h2
  · have:k+1=l.segs.length:=by omega
    rw [List.getElem?_append_right (by omega),this,Nat.sub_self] at h2
    have h2:=Option.some.inj h2
    subst h2
    rw [hx,next_of_last (by rw [←this];exact h1)]
theorem ReadI.start {n0 f0:Int}{m:DM}(hI:DInv m) (hf:0≤f0∧f0≤1099511627776):ReadI n0 f0 m ⟨n0,f0,[],0⟩:=
  ⟨hI,rfl,rfl,rfl,fun j s h=>by simp at h,by show 0≤f0∧f0≤_;simp;omega,fun k s s' h=>by simp at h⟩
theorem keys_few' {fs:List DF}{n0:Nat}(h0:1≤n0) {n:Nat}(h:∀ i,i<n→(getF fs (fK ((n0+i:Nat):Int))).isSome=true):n≤fs.length:=by
  have:=nodup_sub_len (l:=(List.range n).map fun i=>fK ((n0+i:Nat):Int)) (m:=fs.map DF.key) (by
    refine List.pairwise_map.2 ?_
    exact List.nodup_range.imp fun {a b} hab e=>hab (by have:=fK_inj (by omega) (by omega) e;omega)) (fun x hx=>by
    obtain ⟨i,hi,rfl⟩:=List.mem_map.1 hx
    have:=h i (List.mem_range.1 hi)
    obtain ⟨f,hf⟩:=Option.isSome_iff_exists.1 this
    exact List.mem_map.2 ⟨f,getF_mem hf,getF_key hf⟩)
  simpa using this
theorem ReadI.few {n0 f0:Int}{m:DM}{l:LM}(h:ReadI n0 f0 m l) (h0:1≤n0):l.segs.length≤64:=by
  obtain ⟨k,hk⟩:=Int.eq_ofNat_of_zero_le (show 0≤n0 by omega)
  subst hk
  have:=keys_few' (fs:=m.fs) (n0:=k) (by omega) (n:=l.segs.length) fun i hi=>by
    obtain ⟨e,h2,_⟩:=h.segs i _ (List.getElem?_eq_getElem hi)
    rw [e] at h2
    exact h2
  have:=h.inv.len
  omega
theorem ReadI.more {n0 f0:Int}{m:DM}{l:LM}(h:ReadI n0 f0 m l) (h0:1≤n0) (hr:(readM m (fN (n0+l.segs.length))).2=0) :
    ReadI n0 f0 (mendM m (n0+l.segs.length)).1 { l with segs:=l.segs++[⟨n0+l.segs.length,l.next,(scanN (readM m (fN (n0+l.segs.length))).1).2,(scanN (readM m (fN (n0+l.segs.length))).1).1⟩] }:=by
  have hlen:=read_len h.inv (fN (n0+l.segs.length))
  obtain ⟨u1,u2,u3⟩:=scan_used _ (readM m (fN (n0+l.segs.length))).1 (Nat.le_refl _)
  have u4:=scan_count _ (readM m (fN (n0+l.segs.length))).1 (Nat.le_refl _)
  refine ⟨mend_inv h.inv _,h.n,h.first,h.safe,fun j s hs=>?_,?_,chain_snoc h.chain rfl⟩
  · by_cases hj:j<l.segs.length
    · rw [List.getElem?_append_left hj] at hs
      obtain ⟨a1,a2,a3⟩:=h.segs j s hs
      exact ⟨a1,by rw [mend_some h.inv];exact a2,a3⟩
    · have hl:=(List.getElem?_eq_some_iff.1 hs).1
      simp at hl
      obtain rfl:j=l.segs.length:=by omega
      rw [List.getElem?_append_right (Nat.le_refl _),Nat.sub_self] at hs
      have hs:=Option.some.inj hs
      subst hs
      have:=h.next
      refine ⟨rfl,by rw [mend_some h.inv];exact read_some' h.inv hr,by simp only;omega,by simp only;omega,by simp only;omega,fun p hp=>u3 p hp⟩
  · rw [next_snoc]
    have:=h.next
    simp only [Sg.next,List.length_append,List.length_singleton]
    omega
theorem ReadI.linv {n0 f0:Int}{m:DM}{l:LM}(h:ReadI n0 f0 m l) (h0:1≤n0∧n0≤999999999999) (hf:0≤f0∧f0≤1099511627776):LInv l:=by
  have hfew:=h.few h0.1
  refine ⟨by rw [h.n];omega,by rw [h.first];omega,fun s hs=>?_,hfew,by rw [h.safe];omega,h.chain⟩
  obtain ⟨j,hj⟩:=List.mem_iff_getElem?.1 hs
  obtain ⟨a1,a2,a3,a4,a5,a6⟩:=h.segs j s hj
  have:=(List.getElem?_eq_some_iff.1 hj).1
  exact ⟨by omega,by omega,a4,a5,a6⟩
theorem head_bounds (m:DM) (h:(headM m).2.2=0):(1≤(headM m).1∧(headM m).1≤999999999999)∧(0≤(headM m).2.1∧(headM m).2.1≤1099511627776):=by
  unfold headM at h ⊢
  split
  · exact ⟨by decide,by decide⟩
  rename_i h1
  rw [if_neg h1] at h
  simp only at h ⊢
  split
  · rename_i h2;rw [if_pos h2] at h;cases h
  rename_i h2
  rw [if_neg h2] at h
  split
  · rename_i h3;rw [if_pos h3] at h;cases h
  · rename_i h3
    simp only
    omega
end Go.Cx
namespace Go.Cx
open Go Go.Cf
set_option linter.unusedVariables false
set_option maxRecDepth 100000
theorem catF_count:∀ H:List (List UInt8),H.length≤(catF H).length
  | []=>by simp [catF]
  | p::H=>by
    have:=catF_count H
    rw [catF_cons,List.length_append,frame_len,List.length_cons];omega
theorem Rel.linv {m:DM}{gs:List (List (List UInt8))}{safe:Nat}(h:Rel m gs safe) (hl:gs.flatten.length≤1000000):LInv (logOf gs safe):=by
  have hfew:=h.few
  have htot:=h.total
  refine ⟨by simp,by simp,fun s hs=>?_,by rw [segsFrom_len];exact hfew,by simp only;omega,fun k s s' h1 h2=>?_⟩
  · obtain ⟨i,hi⟩:=List.mem_iff_getElem?.1 hs
    have hlt:=(List.getElem?_eq_some_iff.1 hi).1
    rw [segsFrom_len] at hlt
    have hg:gs[i]? = some gs[i]:=List.getElem?_eq_getElem hlt
    rw [segsFrom_get (n:=1) (f:=0) hg] at hi
    obtain rfl:=Option.some.inj hi
    obtain ⟨f,h1,h2,h3⟩:=h.files i _ hg
    have hu:=used_ge (getF_mem h1)
    have hus:=h.inv.used
    have hr:=h.inv.room
    have hc:=catF_count gs[i]
    have htk:=take_flat_len gs i
    rw [h2] at hu
    exact ⟨by simp only;omega,by simp only;omega,by simp only;omega,by simp only;omega,h.small _ (List.mem_of_getElem? hg)⟩
  · have hlt:=(List.getElem?_eq_some_iff.1 h2).1
    rw [segsFrom_len] at hlt
    have hg:gs[k]? = some gs[k]:=List.getElem?_eq_getElem (by omega)
    have hg':gs[k+1]? = some gs[k+1]:=List.getElem?_eq_getElem hlt
    rw [segsFrom_get (n:=1) (f:=0) hg] at h1
    rw [segsFrom_get (n:=1) (f:=0) hg'] at h2
    obtain rfl:=Option.some.inj h1
    obtain rfl:=Option.some.inj h2
    simp only [Sg.next]
    rw [List.take_add_one,hg]
    simp only [Option.toList_some,List.flatten_append,List.flatten_cons,List.flatten_nil,List.append_nil,List.length_append]
    omega
theorem Rel.calm {m:DM}{gs:List (List (List UInt8))}{safe:Nat}(h:Rel m gs safe):(logOf gs safe).segs=[]→(logOf gs safe).safe=(logOf gs safe).next:=by
  intro e
  rw [next_of]
  have:gs=[]:=List.eq_nil_of_length_eq_zero (by rw [←segsFrom_len gs 1 0];rw [show segsFrom 1 0 gs=[] from e];rfl)
  subst this
  have:=h.total
  simp at this ⊢
  exact this
theorem Rel.step {m:DM}{gs:List (List (List UInt8))}{safe:Nat}(h:Rel m gs safe) (p:List UInt8) (ht:gs.flatten.length<1000000) :
    ∃ (gs':List (List (List UInt8))) (safe':Nat),(appendL m (logOf gs safe) p).2.1=logOf gs' safe'∧Rel (appendL m (logOf gs safe) p).1 gs' safe'∧safe≤safe'∧(appendL m (logOf gs safe) p).1.room=m.room ∧
      (m.armed=false→m.down=false→(appendL m (logOf gs safe) p).1.armed=false∧(appendL m (logOf gs safe) p).1.down=false) ∧
      (((appendL m (logOf gs safe) p).2.2.2=0∧(appendL m (logOf gs safe) p).2.2.1=gs.flatten.length∧gs'.flatten=gs.flatten++[p])∨((appendL m (logOf gs safe) p).2.2.2≠0∧(appendL m (logOf gs safe) p).2.2.1=0∧gs'=gs)):=by
  by_cases hd:m.down=true
  · have e:appendL m (logOf gs safe) p=(m,logOf gs safe,0,10):=by unfold appendL;rw [if_pos hd]
    rw [e]
    exact ⟨gs,safe,rfl,h,Nat.le_refl _,rfl,fun _ h2=>(by rw [hd] at h2;cases h2),.inr ⟨by simp,rfl,rfl⟩⟩
  have hd:m.down=false:=by simpa using hd
  by_cases hp:p.length>1024
  · have e:appendL m (logOf gs safe) p=(m,logOf gs safe,0,2):=by unfold appendL;rw [if_neg (by rw [hd];decide),if_pos hp]
    rw [e]
    exact ⟨gs,safe,rfl,h,Nat.le_refl _,rfl,fun h1 h2=>⟨h1,h2⟩,.inr ⟨by simp,rfl,rfl⟩⟩
  have ha:=h.append hd (p:=p) (by omega) ht
  rcases ha.or with ⟨a1,a2,a3,a4,⟨safe',b1,b2,b3⟩,a5⟩ | ⟨a1,a2,a3,a4,a5,gs',safe',b1,b2,b3,b4⟩
  · refine ⟨gs,safe',b2,b3,b1,ha.room,fun h1 h2=>?_,.inr ⟨a1,a2,rfl⟩⟩
    rcases a5 with ⟨_,c2,_⟩ | ⟨_,c2,c3,_⟩
    · rw [h1] at c2;cases c2
    · exact ⟨c3 h1,c2⟩
  · exact ⟨gs',safe',b3,b4,b1,ha.room,fun h1 h2=>⟨a4 h1,a3⟩,.inl ⟨a1,a2,b2⟩⟩
theorem Rel.sstep {m:DM}{gs:List (List (List UInt8))}{safe:Nat}(h:Rel m gs safe) :
    ∃ safe':Nat,(syncL m (logOf gs safe)).2.1=logOf gs safe'∧Rel (syncL m (logOf gs safe)).1 gs safe'∧safe≤safe'∧(syncL m (logOf gs safe)).1.room=m.room ∧
      (m.armed=false→m.down=false→(syncL m (logOf gs safe)).1.armed=false∧(syncL m (logOf gs safe)).1.down=false)∧((syncL m (logOf gs safe)).2.2=0→safe'=gs.flatten.length):=by
  by_cases hd:m.down=true
  · have e:syncL m (logOf gs safe)=(m,logOf gs safe,10):=by unfold syncL;rw [if_pos hd]
    rw [e]
    exact ⟨safe,rfl,h,Nat.le_refl _,rfl,fun _ h2=>(by rw [hd] at h2;cases h2),fun h=>by cases h⟩
  have hd:m.down=false:=by simpa using hd
  have hs:=h.sync hd
  rcases hs.or with ⟨a1,a2,a3,a4,a5⟩ | ⟨a1,a2,a3,a4,a5⟩
  · exact ⟨safe,a4,a5,Nat.le_refl _,hs.room,fun h1 _=>(by rw [h1] at a2;cases a2),fun h=>by rw [a1] at h;cases h⟩
  · exact ⟨_,a4,a5,h.total,hs.room,fun h1 _=>⟨a3 h1,a2⟩,fun _=>rfl⟩
theorem rel_empty {m:DM}(hI:DInv m) (h:m.fs=[]):Rel m [] 0:=
  ⟨hI,fun i g hg=>by simp at hg,by simp,fun f hf=>by rw [h] at hf;simp at hf,by simp,by rw [h];rfl,by rw [h];rfl,by simp,fun gs' g e=>by simp at e⟩
theorem open_empty {m:DM}(hI:DInv m) (h:m.fs=[]) (hd:m.down=false):openM m=(m,some (logOf [] 0),0):=by
  have hn:∀ nm:ByteArray,getF m.fs nm.toList=none:=fun nm=>by rw [h];rfl
  have e1:dropM m newN=(m,0):=by unfold dropM;rw [remove_none hI hd (hn _)];rfl
  have e2:headM m=(1,0,0):=by unfold headM;rw [read_none hI (hn _)];rfl
  have e3:readL 70 m 1 ⟨1,0,[],0⟩=(m,⟨1,0,[],0⟩,0):=by
    rw [readL,if_pos (by rw [read_none hI (hn _)];simp)]
  unfold openM
  rw [e1]
  simp only [e2,e3,h]
  rfl
end Go.Cx
namespace Go.Cx
open Go Go.Cf
set_option linter.unusedVariables false
set_option maxRecDepth 100000
end Go.Cx
namespace Go.Cx
open Go Go.Cf
set_option linter.unusedVariables false
set_option maxRecDepth 100000
end Go.Cx
namespace Go.Cf
open Go
set_option linter.unusedVariables false
section
variable {P:Program}{t u ty e:TypeId}{sz by_:Nat}{w:World}
end
variable {B:Base}{As:List HP}
end Go.Cf
namespace Go.Cf
open Go
set_option linter.unusedVariables false
variable {B:Base}{As:List HP}{α:Type}
end Go.Cf
