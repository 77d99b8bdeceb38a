/-
  Files that another spoilt: a row of calls, made in any order that Go may take.
  Files that another spoilt; all that SegsKnown asks.
  SegsKnown: the chapter's examples.
  The laid variable of the segs seat as it lies.
-/
import Derived.Test.YtffoldlhonbafaaGreatDoorLX1
import Derived.Test.YtffoldlhonbafaaGreatDoorFG
import Derived.Test.YtffoldlhonbafaaGreatDoorS1
import Derived.Test.YtffoldlhonbafaaGreatDoorA3
import Derived.OpenShut
import Derived.WalkKit
import Derived.ProofKit
import Derived.Lib.LaidTab
import Derived.LaidLaws
namespace Go.Cx
open Go Go.Cf
set_option linter.unusedVariables false
set_option maxRecDepth 100000
variable {B:Base}{As F:List HP}{α:Type}
def slV:Value→Sl | .slice p n c=>⟨p,n,c⟩ | _=>nilS
def opV:Value→OP14
  | .agg cs=>(match cs.toList with
    | [.int _ k,.int _ n,.int _ kk,.string t,d]=>⟨k,n,kk,t,slV d⟩
    | _=>⟨0,0,0,ByteArray.empty,nilS⟩)
  | _=>⟨0,0,0,ByteArray.empty,nilS⟩
def Row14 (v:Value):Prop:=∃ s:Sl,v=s.v∧s.n≤4096
def kfG (nm:Sl) (i n:Int) (a:Addr) (t:ByteArray):Nat→List Value→Value→Prop
  | 0,vs,v=>Row14 v
  | 1,vs,v=>v=OP14.v ⟨0,0,0,ByteArray.empty,slV (vs.headD undef)⟩
  | 2,vs,v=>Row14 v
  | 3,vs,v=>v=OP14.v ⟨0,0,0,ByteArray.empty,slV (vs.headD undef)⟩
  | 4,vs,v=>Row14 v
  | 5,vs,v=>v=OP14.v ⟨0,0,0,ByteArray.empty,slV (vs.headD undef)⟩
  | 6,vs,v=>v=OP14.v ⟨1,0,0,ByteArray.empty,nilS⟩
  | 7,vs,v=>v=nm.v
  | 8,vs,v=>v=.int .i64 i
  | 9,vs,v=>v=.pointer (some a)
  | 10,vs,v=>v=.string t
  | 11,vs,v=>v=.int .i64 n
  | 12,vs,v=>Row14 v
  | 13,vs,v=>v=OP14.v ⟨6,0,0,t,slV (vs.getD 1 undef)⟩
  | 14,vs,v=>Row14 v
  | 15,vs,v=>v=OP14.v ⟨0,0,0,ByteArray.empty,slV (vs.headD undef)⟩
  | 16,vs,v=>v=nm.v
  | 17,vs,v=>v=.int .i64 i
  | 18,vs,v=>v=.pointer (some a)
  | 19,vs,v=>v=.string t
  | 20,vs,v=>v=.int .i64 n
  | 21,vs,v=>v=OP14.v ⟨8,n,0,t,nilS⟩
  | 22,vs,v=>Row14 v
  | 23,vs,v=>v=OP14.v ⟨0,0,0,ByteArray.empty,slV (vs.headD undef)⟩
  | 24,vs,v=>v=nm.v
  | 25,vs,v=>v=.int .i64 i
  | 26,vs,v=>v=.pointer (some a)
  | 27,vs,v=>v=.string t
  | 28,vs,v=>v=OP14.v ⟨7,0,0,t,nilS⟩
  | 29,vs,v=>Row14 v
  | 30,vs,v=>v=OP14.v ⟨0,0,0,ByteArray.empty,slV (vs.headD undef)⟩
  | 31,vs,v=>∃ b:Nat,v=.slice (some ⟨b,0,none⟩) 10 10
  | 32,vs,v=>v=vs.headD undef
  | _,_,_=>False
def kfP:Nat→List Value→Value→List HP
  | 0,_,v=>[RowX (slV v)]
  | 2,_,v=>[RowX (slV v)]
  | 12,_,v=>[RowX (slV v)]
  | 4,_,v=>[RowX (slV v)]
  | 14,_,v=>[RowX (slV v)]
  | 22,_,v=>[RowX (slV v)]
  | 29,_,v=>[RowX (slV v)]
  | 31,vs,v=>[Ar OPS (slV v) (vs.map opV)]
  | _,_,_=>[]
def kfSl:Nat→List Nat
  | 0=>[]
  | 1=>[16]
  | 2=>[]
  | 3=>[18]
  | 4=>[]
  | 5=>[20]
  | 6=>[]
  | 7=>[1]
  | 8=>[2]
  | 9=>[23,24]
  | 10=>[25]
  | 11=>[3]
  | 12=>[27]
  | 13=>[26,28]
  | 14=>[]
  | 15=>[30]
  | 16=>[1]
  | 17=>[2]
  | 18=>[32,33]
  | 19=>[34]
  | 20=>[3]
  | 21=>[35,36]
  | 22=>[]
  | 23=>[38]
  | 24=>[1]
  | 25=>[2]
  | 26=>[40,41]
  | 27=>[42]
  | 28=>[43]
  | 29=>[]
  | 30=>[45]
  | 31=>[17,19,21,22,29,31,37,39,44,46]
  | 32=>[47]
  | _=>[]
def kfDs:Nat→Nat
  | 0=>16
  | 1=>17
  | 2=>18
  | 3=>19
  | 4=>20
  | 5=>21
  | 6=>22
  | 7=>23
  | 8=>24
  | 9=>25
  | 10=>26
  | 11=>27
  | 12=>28
  | 13=>29
  | 14=>30
  | 15=>31
  | 16=>32
  | 17=>33
  | 18=>34
  | 19=>35
  | 20=>36
  | 21=>37
  | 22=>38
  | 23=>39
  | 24=>40
  | 25=>41
  | 26=>42
  | 27=>43
  | 28=>44
  | 29=>45
  | 30=>46
  | 31=>47
  | 32=>4
  | _=>0
def kfDp:Nat→List Nat
  | 1=>[0]
  | 3=>[2]
  | 5=>[4]
  | 9=>[7,8]
  | 10=>[9]
  | 12=>[11]
  | 13=>[10,12]
  | 15=>[14]
  | 18=>[16,17]
  | 19=>[18]
  | 21=>[19,20]
  | 23=>[22]
  | 26=>[24,25]
  | 27=>[26]
  | 28=>[27]
  | 30=>[29]
  | 31=>[1,3,5,6,13,15,21,23,28,30]
  | 32=>[31]
  | _=>[]
theorem kf_lt {i:Nat}{o:Oper}(ho:(goOps kfFn)[i]? = some o):i<33:=by
  have:=(List.getElem?_eq_some_iff.1 ho).1
  rwa [kf_len] at this
theorem kf_at {i:Nat}{o:Oper}(ho:(goOps kfFn)[i]? = some o):slotsO o=kfSl i∧dstN o=kfDs i∧∀ m∈kfDp i,m∈dirDeps o:=by
  have hi:=kf_lt ho
  have h1:((goOps kfFn).map slotsO)[i]? = some (slotsO o):=by rw [List.getElem?_map,ho];rfl
  have h2:((goOps kfFn).map dstN)[i]? = some (dstN o):=by rw [List.getElem?_map,ho];rfl
  rw [kf_slots] at h1
  rw [kf_dsts] at h2
  have t1:∀ i<33,([[],[16],[],[18],[],[20],[],[1],[2],[23,24],[25],[3],[27],[26,28],[],[30],[1],[2],[32,33],[34],[3],[35,36],[],[38],[1],[2],[40,41],[42],[43],[],[45],[17,19,21,22,29,31,37,39,44,46],[47]])[i]? = some (kfSl i):=by decide
  have t2:∀ i<33,([16,17,18,19,20,21,22,23,24,25,26,27,28,29,30,31,32,33,34,35,36,37,38,39,40,41,42,43,44,45,46,47,4])[i]? = some (kfDs i):=by decide
  rw [t1 i hi] at h1
  rw [t2 i hi] at h2
  refine ⟨(Option.some.inj h1).symm,(Option.some.inj h2).symm,fun m hm=>?_⟩
  have t3:∀ i<33,kfDp i=[]∨(i,kfDp i)∈kfDeps:=by decide
  rcases t3 i hi with e | e
  · rw [e] at hm;cases hm
  · have:=List.all_eq_true.1 kf_deps _ e
    simp only [ho,List.all_eq_true] at this
    exact memN_iff.1 (this m hm)
section
variable {ρ0 ρ:Env}{g:Nat→List Value→Value→Prop}{X:List Nat}{T0:List Nat}
theorem kf_got (hm:Mid (goOps kfFn) T0 ρ0 g X ρ) {j:Nat}(hj:j∈X):g j ((kfSl j).map (gv ρ)) (gv ρ (kfDs j)):=by
  have hlt:=hm.lt j hj
  have ho:=List.getElem?_eq_getElem hlt
  obtain ⟨e1,e2,_⟩:=kf_at ho
  have:=(hm.got j _ hj ho).2
  rwa [e1,e2] at this
theorem kf_dep (hm:Mid (goOps kfFn) T0 ρ0 g X ρ) {j:Nat}(hj:j∈X):∀ m∈kfDp j,m∈X:=by
  have hlt:=hm.lt j hj
  have ho:=List.getElem?_eq_getElem hlt
  intro m hmm
  exact hm.cl j _ hj ho m ((kf_at ho).2.2 m hmm)
end
theorem kf_step {nm:Nat}{names:List ByteArray}{k:Nat}{t:ByteArray}(hN:nm=nm) (ht:names[k]? = some t) {n:Int}(hn:0≤n∧n≤4096) {ρ0:Env}(hb1:gv ρ0 1=.slice (some ⟨nm,0,none⟩) names.length names.length) (hb2:gv ρ0 2=.int .i64 (k:Int)) (hb3:gv ρ0 3=.int .i64 n) :
    ∀ (i:Nat) (o:Oper) (X:List Nat) (ρ:Env) (rest:List HP) (K:Value→WP),(goOps kfFn)[i]? = some o→Mid (goOps kfFn) [1,2,3] ρ0 (kfG ⟨some ⟨nm,0,none⟩,names.length,names.length⟩ k n ((⟨some ⟨nm,0,none⟩,names.length,names.length⟩:Sl).at 1 k) t) X ρ→(∀ m∈dirDeps o,m∈X) →
      (∀ x,kfG ⟨some ⟨nm,0,none⟩,names.length,names.length⟩ k n ((⟨some ⟨nm,0,none⟩,names.length,names.length⟩:Sl).at 1 k) t i ((slotsO o).map (gv ρ)) x→Ent B (kfP i ((slotsO o).map (gv ρ)) x++([Ar ST ⟨some ⟨nm,0,none⟩,names.length,names.length⟩ names]++rest)) (K x)) →
      Ent B ([Ar ST ⟨some ⟨nm,0,none⟩,names.length,names.length⟩ names]++rest) (fOp Pr o ((slotsO o).map (gv ρ)) K):=by
  intro i o X ρ rest K ho hm hdep hK
  have hi:=kf_lt ho
  obtain ⟨e1,e2,e3⟩:=kf_at ho
  have hX:∀ m∈kfDp i,m∈X:=fun m h=>hdep m (e3 m h)
  rw [kOp_eq ho]
  rw [e1] at hK ⊢
  have g1:gv ρ 1=.slice (some ⟨nm,0,none⟩) names.length names.length:=by rw [(hm.base 1 (by decide)).2,hb1]
  have g2:gv ρ 2=.int .i64 (k:Int):=by rw [(hm.base 2 (by decide)).2,hb2]
  have g3:gv ρ 3=.int .i64 n:=by rw [(hm.base 3 (by decide)).2,hb3]
  have hkl:k<names.length:=(List.getElem?_eq_some_iff.1 ht).1
  have app1':∀ {P:HP}{φ:WP},Ent B (P::([Ar ST ⟨some ⟨nm,0,none⟩,names.length,names.length⟩ names]++rest)) φ→Ent B ([P]++([Ar ST ⟨some ⟨nm,0,none⟩,names.length,names.length⟩ names]++rest)) φ:=fun h=>h
  rcases (by omega:i=0∨i=1∨i=2∨i=3∨i=4∨i=5∨i=6∨i=7∨i=8∨i=9∨i=10∨i=11∨i=12∨i=13∨i=14∨i=15∨i=16∨i=17∨i=18∨i=19∨i=20∨i=21∨i=22∨i=23∨i=24∨i=25∨i=26∨i=27∨i=28∨i=29∨i=30∨i=31∨i=32) with rfl | rfl | rfl | rfl | rfl | rfl | rfl | rfl | rfl | rfl | rfl | rfl | rfl | rfl | rfl | rfl | rfl | rfl | rfl | rfl | rfl | rfl | rfl | rfl | rfl | rfl | rfl | rfl | rfl | rfl | rfl | rfl | rfl
  · show Ent B _ (kOp Pr kfFn 0 [] K)
    rw [kf0]
    exact xrow14 (by decide) (by decide) fun s hs=>hK s.v ⟨s,rfl,hs⟩
  · obtain ⟨s,hs,_⟩:Row14 (gv ρ 16):=kf_got hm (hX 0 (by decide))
    show Ent B _ (kOp Pr kfFn 1 [gv ρ 16] K)
    rw [hs,kf1]
    exact hK _ (show _=OP14.v ⟨0,0,0,ByteArray.empty,slV (gv ρ 16)⟩ by rw [hs];rfl)
  · show Ent B _ (kOp Pr kfFn 2 [] K)
    rw [kf2]
    exact xrow14 (by decide) (by decide) fun s hs=>hK s.v ⟨s,rfl,hs⟩
  · obtain ⟨s,hs,_⟩:Row14 (gv ρ 18):=kf_got hm (hX 2 (by decide))
    show Ent B _ (kOp Pr kfFn 3 [gv ρ 18] K)
    rw [hs,kf3]
    exact hK _ (show _=OP14.v ⟨0,0,0,ByteArray.empty,slV (gv ρ 18)⟩ by rw [hs];rfl)
  · show Ent B _ (kOp Pr kfFn 4 [] K)
    rw [kf4]
    refine xnew fun b=>?_
    refine xfold1 (Q:=Ar U8 ⟨some ⟨b,0,none⟩,2,2⟩ [5,6]) 0 (fun g hg=>⟨[],blk_ar [5,6] 2 rfl rfl hg⟩) ?_
    exact xfold [Ar U8 ⟨some ⟨b,0,none⟩,2,2⟩ [5,6]] (RowX ⟨some ⟨b,0,none⟩,2,2⟩) (fun g hg=>⟨[5,6],hg⟩) (hK (.slice (some ⟨b,0,none⟩) 2 2) ⟨⟨some ⟨b,0,none⟩,2,2⟩,rfl,show 2≤4096 by decide⟩)
  · obtain ⟨s,hs,_⟩:Row14 (gv ρ 20):=kf_got hm (hX 4 (by decide))
    show Ent B _ (kOp Pr kfFn 5 [gv ρ 20] K)
    rw [hs,kf5]
    exact hK _ (show _=OP14.v ⟨0,0,0,ByteArray.empty,slV (gv ρ 20)⟩ by rw [hs];rfl)
  · show Ent B _ (kOp Pr kfFn 6 [] K)
    rw [kf6]
    exact hK _ rfl
  · show Ent B _ (kOp Pr kfFn 7 [gv ρ 1] K)
    rw [g1]
    exact (kf7 (s:=⟨some ⟨nm,0,none⟩,names.length,names.length⟩)) ▸ hK _ rfl
  · show Ent B _ (kOp Pr kfFn 8 [gv ρ 2] K)
    rw [g2,kf8]
    exact hK _ rfl
  · have q1:gv ρ 23=Sl.v ⟨some ⟨nm,0,none⟩,names.length,names.length⟩:=kf_got hm (hX 7 (by decide))
    have q2:gv ρ 24=.int .i64 (k:Int):=kf_got hm (hX 8 (by decide))
    show Ent B _ (kOp Pr kfFn 9 [gv ρ 23,gv ρ 24] K)
    rw [q1,q2,kf9]
    refine app1 ?_
    refine xidxn (E:=ST) (xs:=names) (s:=⟨some ⟨nm,0,none⟩,names.length,names.length⟩) (k:=k) (h1:=hkl) (h:=fun _ _=>?_)
    exact hK _ rfl
  · have q1:gv ρ 25=.pointer (some ((⟨some ⟨nm,0,none⟩,names.length,names.length⟩:Sl).at 1 k)):=kf_got hm (hX 9 (by decide))
    show Ent B _ (kOp Pr kfFn 10 [gv ρ 25] K)
    rw [q1,kf10]
    exact app1 (xgetE (E:=ST) (xs:=names) ht (h:=hK _ rfl))
  · show Ent B _ (kOp Pr kfFn 11 [gv ρ 3] K)
    rw [g3,kf11]
    exact hK _ rfl
  · have h11:=kf_got hm (hX 11 (by decide))
    have h11:gv ρ 27=.int .i64 n:=h11
    show Ent B _ (kOp Pr kfFn 12 [gv ρ 27] K)
    rw [h11,kf12]
    exact xrow14 hn.1 hn.2 fun s hs=>hK s.v ⟨s,rfl,hs⟩
  · have q1:gv ρ 26=.string t:=kf_got hm (hX 10 (by decide))
    obtain ⟨s,hs,_⟩:Row14 (gv ρ 28):=kf_got hm (hX 12 (by decide))
    show Ent B _ (kOp Pr kfFn 13 [gv ρ 26,gv ρ 28] K)
    rw [q1,hs,kf13]
    exact hK _ (show _=OP14.v ⟨6,0,0,t,slV (gv ρ 28)⟩ by rw [hs];rfl)
  · show Ent B _ (kOp Pr kfFn 14 [] K)
    rw [kf14]
    exact xbyte14 rfl fun b=>hK (.slice (some ⟨b,0,none⟩) 1 1) ⟨⟨some ⟨b,0,none⟩,1,1⟩,rfl,show 1≤4096 by decide⟩
  · obtain ⟨s,hs,_⟩:Row14 (gv ρ 30):=kf_got hm (hX 14 (by decide))
    show Ent B _ (kOp Pr kfFn 15 [gv ρ 30] K)
    rw [hs,kf15]
    exact hK _ (show _=OP14.v ⟨0,0,0,ByteArray.empty,slV (gv ρ 30)⟩ by rw [hs];rfl)
  · show Ent B _ (kOp Pr kfFn 16 [gv ρ 1] K)
    rw [g1]
    exact (kf16 (s:=⟨some ⟨nm,0,none⟩,names.length,names.length⟩)) ▸ hK _ rfl
  · show Ent B _ (kOp Pr kfFn 17 [gv ρ 2] K)
    rw [g2,kf17]
    exact hK _ rfl
  · have q1:gv ρ 32=Sl.v ⟨some ⟨nm,0,none⟩,names.length,names.length⟩:=kf_got hm (hX 16 (by decide))
    have q2:gv ρ 33=.int .i64 (k:Int):=kf_got hm (hX 17 (by decide))
    show Ent B _ (kOp Pr kfFn 18 [gv ρ 32,gv ρ 33] K)
    rw [q1,q2,kf18]
    refine app1 ?_
    refine xidxn (E:=ST) (xs:=names) (s:=⟨some ⟨nm,0,none⟩,names.length,names.length⟩) (k:=k) (h1:=hkl) (h:=fun _ _=>?_)
    exact hK _ rfl
  · have q1:gv ρ 34=.pointer (some ((⟨some ⟨nm,0,none⟩,names.length,names.length⟩:Sl).at 1 k)):=kf_got hm (hX 18 (by decide))
    show Ent B _ (kOp Pr kfFn 19 [gv ρ 34] K)
    rw [q1,kf19]
    exact app1 (xgetE (E:=ST) (xs:=names) ht (h:=hK _ rfl))
  · show Ent B _ (kOp Pr kfFn 20 [gv ρ 3] K)
    rw [g3,kf20]
    exact hK _ rfl
  · have q1:gv ρ 35=.string t:=kf_got hm (hX 19 (by decide))
    have q2:gv ρ 36=.int .i64 n:=kf_got hm (hX 20 (by decide))
    show Ent B _ (kOp Pr kfFn 21 [gv ρ 35,gv ρ 36] K)
    rw [q1,q2,kf21]
    exact hK _ rfl
  · show Ent B _ (kOp Pr kfFn 22 [] K)
    rw [kf22]
    exact xbyte14 rfl fun b=>hK (.slice (some ⟨b,0,none⟩) 1 1) ⟨⟨some ⟨b,0,none⟩,1,1⟩,rfl,show 1≤4096 by decide⟩
  · obtain ⟨s,hs,_⟩:Row14 (gv ρ 38):=kf_got hm (hX 22 (by decide))
    show Ent B _ (kOp Pr kfFn 23 [gv ρ 38] K)
    rw [hs,kf23]
    exact hK _ (show _=OP14.v ⟨0,0,0,ByteArray.empty,slV (gv ρ 38)⟩ by rw [hs];rfl)
  · show Ent B _ (kOp Pr kfFn 24 [gv ρ 1] K)
    rw [g1]
    exact (kf24 (s:=⟨some ⟨nm,0,none⟩,names.length,names.length⟩)) ▸ hK _ rfl
  · show Ent B _ (kOp Pr kfFn 25 [gv ρ 2] K)
    rw [g2,kf25]
    exact hK _ rfl
  · have q1:gv ρ 40=Sl.v ⟨some ⟨nm,0,none⟩,names.length,names.length⟩:=kf_got hm (hX 24 (by decide))
    have q2:gv ρ 41=.int .i64 (k:Int):=kf_got hm (hX 25 (by decide))
    show Ent B _ (kOp Pr kfFn 26 [gv ρ 40,gv ρ 41] K)
    rw [q1,q2,kf26]
    refine app1 ?_
    refine xidxn (E:=ST) (xs:=names) (s:=⟨some ⟨nm,0,none⟩,names.length,names.length⟩) (k:=k) (h1:=hkl) (h:=fun _ _=>?_)
    exact hK _ rfl
  · have q1:gv ρ 42=.pointer (some ((⟨some ⟨nm,0,none⟩,names.length,names.length⟩:Sl).at 1 k)):=kf_got hm (hX 26 (by decide))
    show Ent B _ (kOp Pr kfFn 27 [gv ρ 42] K)
    rw [q1,kf27]
    exact app1 (xgetE (E:=ST) (xs:=names) ht (h:=hK _ rfl))
  · have q1:gv ρ 43=.string t:=kf_got hm (hX 27 (by decide))
    show Ent B _ (kOp Pr kfFn 28 [gv ρ 43] K)
    rw [q1,kf28]
    exact hK _ rfl
  · show Ent B _ (kOp Pr kfFn 29 [] K)
    rw [kf29]
    exact xbyte14 rfl fun b=>hK (.slice (some ⟨b,0,none⟩) 1 1) ⟨⟨some ⟨b,0,none⟩,1,1⟩,rfl,show 1≤4096 by decide⟩
  · obtain ⟨s,hs,_⟩:Row14 (gv ρ 45):=kf_got hm (hX 29 (by decide))
    show Ent B _ (kOp Pr kfFn 30 [gv ρ 45] K)
    rw [hs,kf30]
    exact hK _ (show _=OP14.v ⟨0,0,0,ByteArray.empty,slV (gv ρ 45)⟩ by rw [hs];rfl)
  · obtain ⟨s1,d1,_⟩:Row14 (gv ρ 16):=kf_got hm (kf_dep hm (hX 1 (by decide)) 0 (by decide))
    obtain ⟨s2,d2,_⟩:Row14 (gv ρ 18):=kf_got hm (kf_dep hm (hX 3 (by decide)) 2 (by decide))
    obtain ⟨s3,d3,_⟩:Row14 (gv ρ 20):=kf_got hm (kf_dep hm (hX 5 (by decide)) 4 (by decide))
    obtain ⟨s5,d5,_⟩:Row14 (gv ρ 30):=kf_got hm (kf_dep hm (hX 15 (by decide)) 14 (by decide))
    obtain ⟨s6,d6,_⟩:Row14 (gv ρ 38):=kf_got hm (kf_dep hm (hX 23 (by decide)) 22 (by decide))
    obtain ⟨s7,d7,_⟩:Row14 (gv ρ 45):=kf_got hm (kf_dep hm (hX 30 (by decide)) 29 (by decide))
    obtain ⟨s4,d4,_⟩:Row14 (gv ρ 28):=kf_got hm (kf_dep hm (hX 13 (by decide)) 12 (by decide))
    have p1:gv ρ 17=OP14.v ⟨0,0,0,ByteArray.empty,s1⟩:=(show gv ρ 17=OP14.v ⟨0,0,0,ByteArray.empty,slV (gv ρ 16)⟩ from kf_got hm (hX 1 (by decide))).trans (by rw [d1];rfl)
    have p2:gv ρ 19=OP14.v ⟨0,0,0,ByteArray.empty,s2⟩:=(show gv ρ 19=OP14.v ⟨0,0,0,ByteArray.empty,slV (gv ρ 18)⟩ from kf_got hm (hX 3 (by decide))).trans (by rw [d2];rfl)
    have p3:gv ρ 21=OP14.v ⟨0,0,0,ByteArray.empty,s3⟩:=(show gv ρ 21=OP14.v ⟨0,0,0,ByteArray.empty,slV (gv ρ 20)⟩ from kf_got hm (hX 5 (by decide))).trans (by rw [d3];rfl)
    have p5:gv ρ 31=OP14.v ⟨0,0,0,ByteArray.empty,s5⟩:=(show gv ρ 31=OP14.v ⟨0,0,0,ByteArray.empty,slV (gv ρ 30)⟩ from kf_got hm (hX 15 (by decide))).trans (by rw [d5];rfl)
    have p6:gv ρ 39=OP14.v ⟨0,0,0,ByteArray.empty,s6⟩:=(show gv ρ 39=OP14.v ⟨0,0,0,ByteArray.empty,slV (gv ρ 38)⟩ from kf_got hm (hX 23 (by decide))).trans (by rw [d6];rfl)
    have p7:gv ρ 46=OP14.v ⟨0,0,0,ByteArray.empty,s7⟩:=(show gv ρ 46=OP14.v ⟨0,0,0,ByteArray.empty,slV (gv ρ 45)⟩ from kf_got hm (hX 30 (by decide))).trans (by rw [d7];rfl)
    have p0:gv ρ 22=OP14.v ⟨1,0,0,ByteArray.empty,nilS⟩:=kf_got hm (hX 6 (by decide))
    have p4:gv ρ 29=OP14.v ⟨6,0,0,t,s4⟩:=(show gv ρ 29=OP14.v ⟨6,0,0,t,slV (gv ρ 28)⟩ from kf_got hm (hX 13 (by decide))).trans (by rw [d4];rfl)
    have p8:gv ρ 37=OP14.v ⟨8,n,0,t,nilS⟩:=kf_got hm (hX 21 (by decide))
    have p9:gv ρ 44=OP14.v ⟨7,0,0,t,nilS⟩:=kf_got hm (hX 28 (by decide))
    show Ent B _ (kOp Pr kfFn 31 [gv ρ 17,gv ρ 19,gv ρ 21,gv ρ 22,gv ρ 29,gv ρ 31,gv ρ 37,gv ρ 39,gv ρ 44,gv ρ 46] K)
    have hK:∀ x,(∃ b:Nat,x=.slice (some ⟨b,0,none⟩) 10 10)→Ent B (Ar OPS (slV x) ([gv ρ 17,gv ρ 19,gv ρ 21,gv ρ 22,gv ρ 29,gv ρ 31,gv ρ 37,gv ρ 39,gv ρ 44,gv ρ 46].map opV)::([Ar ST ⟨some ⟨nm,0,none⟩,names.length,names.length⟩ names]++rest)) (K x):=hK
    rw [p1,p2,p3,p0,p4,p5,p8,p6,p9,p7] at hK ⊢
    rw [kf31]
    exact xops14 [⟨0,0,0,ByteArray.empty,s1⟩,⟨0,0,0,ByteArray.empty,s2⟩,⟨0,0,0,ByteArray.empty,s3⟩,⟨1,0,0,ByteArray.empty,nilS⟩,⟨6,0,0,t,s4⟩,⟨0,0,0,ByteArray.empty,s5⟩,⟨8,n,0,t,nilS⟩,⟨0,0,0,ByteArray.empty,s6⟩,⟨7,0,0,t,nilS⟩,⟨0,0,0,ByteArray.empty,s7⟩] 10 rfl rfl fun b=>hK _ ⟨b,rfl⟩
  · obtain ⟨b,hb⟩:∃ b:Nat,gv ρ 47=.slice (some ⟨b,0,none⟩) 10 10:=kf_got hm (hX 31 (by decide))
    show Ent B _ (kOp Pr kfFn 32 [gv ρ 47] K)
    rw [hb]
    exact (kf32 (s:=⟨some ⟨b,0,none⟩,10,10⟩)) ▸ hK _ (show _=gv ρ 47 by rw [hb])
end Go.Cx
namespace Go.Cx
open Go Go.Cf
set_option linter.unusedVariables false
set_option maxRecDepth 100000
variable {B:Base}{As F:List HP}{α:Type}
abbrev ops10 (s1 s2 s3 s4 s5 s6 s7:Sl) (t:ByteArray) (n:Int):List OP14:=[⟨0,0,0,ByteArray.empty,s1⟩,⟨0,0,0,ByteArray.empty,s2⟩,⟨0,0,0,ByteArray.empty,s3⟩,⟨1,0,0,ByteArray.empty,nilS⟩,⟨6,0,0,t,s4⟩,⟨0,0,0,ByteArray.empty,s5⟩,⟨8,n,0,t,nilS⟩,⟨0,0,0,ByteArray.empty,s6⟩,⟨7,0,0,t,nilS⟩,⟨0,0,0,ByteArray.empty,s7⟩]
theorem good10 {s1 s2 s3 s4 s5 s6 s7:Sl}{t:ByteArray}{n:Int}(h1:s1.n≤4096) (h2:s2.n≤4096) (h3:s3.n≤4096) (h4:s4.n≤4096) (h5:s5.n≤4096) (h6:s6.n≤4096) (h7:s7.n≤4096) (hn:i64 n):∀ o∈ops10 s1 s2 s3 s4 s5 s6 s7 t n,good14 o:=by
  have z:i64 0:=i64c 0 rfl rfl
  intro o ho
  simp only [ops10,List.mem_cons,List.not_mem_nil,or_false] at ho
  rcases ho with rfl | rfl | rfl | rfl | rfl | rfl | rfl | rfl | rfl | rfl
  · exact ⟨z,z,h1⟩
  · exact ⟨z,z,h2⟩
  · exact ⟨z,z,h3⟩
  · exact ⟨z,z,Nat.zero_le _⟩
  · exact ⟨z,z,h4⟩
  · exact ⟨z,z,h5⟩
  · exact ⟨hn,z,Nat.zero_le _⟩
  · exact ⟨z,z,h6⟩
  · exact ⟨z,z,Nat.zero_le _⟩
  · exact ⟨z,z,h7⟩
abbrev names11:List ByteArray:=[⟨#[108,111,103,45,49]⟩,⟨#[108,111,103,45,50]⟩,⟨#[108,111,103,45,51]⟩,⟨#[108,111,103,45,48,49]⟩,⟨#[108,111,103,45]⟩,⟨#[108,111,103,45,120]⟩,⟨#[108,111,103,45,57,57,57,57,57,57,57,57,57,57,57,57]⟩,⟨#[108,111,103,45,48]⟩,⟨#[104,101,97,100,46,110,101,119]⟩,⟨#[111,116,104,101,114]⟩,⟨#[108,111,103,45,52]⟩]
theorem kf_pieces (ρ:Env) :
    (List.range (goOps kfFn).length).flatMap (fun i=>match (goOps kfFn)[i]? with | some o=>kfP i ((slotsO o).map (gv ρ)) (gv ρ (dstN o)) | none=>[]) =
    [RowX (slV (gv ρ 16)),RowX (slV (gv ρ 18)),RowX (slV (gv ρ 20)),RowX (slV (gv ρ 28)),RowX (slV (gv ρ 30)),RowX (slV (gv ρ 38)),RowX (slV (gv ρ 45)),Ar OPS (slV (gv ρ 47)) ([gv ρ 17,gv ρ 19,gv ρ 21,gv ρ 22,gv ρ 29,gv ρ 31,gv ρ 37,gv ρ 39,gv ρ 44,gv ρ 46].map opV)]:=by
  have e:∀ i∈List.range (goOps kfFn).length,(match (goOps kfFn)[i]? with | some o=>kfP i ((slotsO o).map (gv ρ)) (gv ρ (dstN o)) | none=>[])=kfP i ((kfSl i).map (gv ρ)) (gv ρ (kfDs i)):=by
    intro i hi
    have ho:=List.getElem?_eq_getElem (List.mem_range.1 hi)
    obtain ⟨e1,e2,_⟩:=kf_at ho
    rw [ho]
    simp only [e1,e2]
  rw [List.flatMap_def,List.map_congr_left e,kf_len]
  rfl
theorem files14_spec:Ct Pr F_law14_knownFiles [] .one [.bool] [] GTab (fun t Bs=>t.1=true∧Bs=[]):=by
  refine spec1 c_law14_knownFiles fun B hg=>?_
  haveI:FroP B GTab:=⟨hg,fun _ _ h s=>GTab.mono _ _ h s⟩
  unfold law14_knownFiles
  have fin:∀ {As:List HP},Ent B As (Ret B (ss:=[.bool]) (fun t Bs=>t.1=true∧Bs=[]) (true,())):=xkeep (l:=[]) (xret ⟨rfl,rfl⟩)
  refine xnew fun b=>xfold1 (Q:=Ar ST ⟨some ⟨b,0,none⟩,11,11⟩ names11) 0 (fun g hg=>⟨[],blk_ar names11 11 rfl rfl hg⟩) ?_
  refine xloop1 (fun n (z:Int) As'=>∃ i:Nat,z=(i:Int)∧n=11 - i∧i≤11∧As'=[Ar ST ⟨some ⟨b,0,none⟩,11,11⟩ names11]) 11 ⟨0,rfl,rfl,by omega,rfl⟩ ?_
  rintro n _ _ K ⟨i,rfl,rfl,hi,rfl⟩ hK
  refine xif_dec (fun hlt=>?_) (fun hlt=>fin)
  have hi11:i<11:=by omega
  obtain ⟨t,ht⟩:∃ e,names11[i]? = some e:=⟨_,List.getElem?_eq_getElem (show i<names11.length from hi11)⟩
  refine xloop1 (fun n (z:Int) As'=>∃ k:Nat,z=((3*k:Nat):Int)∧n=7 - k∧k≤7∧As'=[Ar ST ⟨some ⟨b,0,none⟩,11,11⟩ names11]) 7 ⟨0,rfl,rfl,by omega,rfl⟩ ?_
  rintro n _ _ K2 ⟨k,rfl,rfl,hk,rfl⟩ hK2
  refine xif_dec (fun hlt2=>?_) (fun hlt2=>?_)
  rotate_left
  · rw [wrap_succ i (by omega)]
    exact hK (11 - (i+1)) _ _ (by omega) ⟨i+1,rfl,rfl,by omega,rfl⟩
  have hk7:k<7:=by omega
  refine xdraw (xjoin1 (fun(l:Sl) As'=>∃ s1 s2 s3 s4 s5 s6 s7:Sl,s1.n≤4096∧s2.n≤4096∧s3.n≤4096∧s4.n≤4096∧s5.n≤4096∧s6.n≤4096∧s7.n≤4096 ∧
    As'=[Ar ST ⟨some ⟨b,0,none⟩,11,11⟩ names11,RowX s1,RowX s2,RowX s3,RowX s4,RowX s5,RowX s6,RowX s7,Ar OPS l (ops10 s1 s2 s3 s4 s5 s6 s7 t ((3*k:Nat):Int))]) (fun K5 hK5=>?_) ?_)
  · have go:=ent_go (B:=B) (P:=Pr) (N:=51) (ops:=goOps kfFn) (T0:=[1,2,3])
      (ρ0:=[(13,.bool (decide (((3*k:Nat):Int)<20))),(12,.int .i64 ((3*k:Nat):Int)),(3,.int .i64 ((3*k:Nat):Int)),(9,.bool (decide ((i:Int)<((11:Int))))),(8,.int .i64 ((11:Int))),(7,.slice ((some ⟨b,0,none⟩)) 11 11),(6,.int .i64 (i:Int)),(2,.int .i64 (i:Int)),(1,.slice ((some ⟨b,0,none⟩)) 11 11),(5,.slice ((some ⟨b,0,none⟩)) 11 11)])
      (g:=kfG ⟨some ⟨b,0,none⟩,11,11⟩ i ((3*k:Nat):Int) ((⟨some ⟨b,0,none⟩,11,11⟩:Sl).at 1 i) t) kf_chk kf_back (by intro t ht;simp only [List.mem_cons,List.not_mem_nil,or_false] at ht;rcases ht with rfl | rfl | rfl<;>rfl)
      (As0:=[Ar ST ⟨some ⟨b,0,none⟩,11,11⟩ names11]) kfP
      (K:=fun ρ'=>bif allHas ρ' [4] then Cur.appV [.slice] K5 ([4].map (gv ρ')) else bad)
      (kf_step (names:=names11) rfl ht ⟨by omega,by omega⟩ rfl rfl rfl) (fun X ρ hm hX=>?_)
    · rw [kf_len] at go
      exact go
    · rw [kf_len] at hX
      have hx:∀ i,i<33→i∈X:=hX
      refine (congrArg (fun L=>Ent B ([Ar ST ⟨some ⟨b,0,none⟩,11,11⟩ names11]++L) (bif allHas ρ [4] then Cur.appV [.slice] K5 ([4].map (gv ρ)) else bad)) (kf_pieces ρ)).mpr ?_
      obtain ⟨s1,d1,l1⟩:Row14 (gv ρ 16):=kf_got hm (hx 0 (by decide))
      obtain ⟨s2,d2,l2⟩:Row14 (gv ρ 18):=kf_got hm (hx 2 (by decide))
      obtain ⟨s3,d3,l3⟩:Row14 (gv ρ 20):=kf_got hm (hx 4 (by decide))
      obtain ⟨s4,d4,l4⟩:Row14 (gv ρ 28):=kf_got hm (hx 12 (by decide))
      obtain ⟨s5,d5,l5⟩:Row14 (gv ρ 30):=kf_got hm (hx 14 (by decide))
      obtain ⟨s6,d6,l6⟩:Row14 (gv ρ 38):=kf_got hm (hx 22 (by decide))
      obtain ⟨s7,d7,l7⟩:Row14 (gv ρ 45):=kf_got hm (hx 29 (by decide))
      have p1:gv ρ 17=OP14.v ⟨0,0,0,ByteArray.empty,slV (gv ρ 16)⟩:=kf_got hm (hx 1 (by decide))
      have p2:gv ρ 19=OP14.v ⟨0,0,0,ByteArray.empty,slV (gv ρ 18)⟩:=kf_got hm (hx 3 (by decide))
      have p3:gv ρ 21=OP14.v ⟨0,0,0,ByteArray.empty,slV (gv ρ 20)⟩:=kf_got hm (hx 5 (by decide))
      have p0:gv ρ 22=OP14.v ⟨1,0,0,ByteArray.empty,nilS⟩:=kf_got hm (hx 6 (by decide))
      have p4:gv ρ 29=OP14.v ⟨6,0,0,t,slV (gv ρ 28)⟩:=kf_got hm (hx 13 (by decide))
      have p5:gv ρ 31=OP14.v ⟨0,0,0,ByteArray.empty,slV (gv ρ 30)⟩:=kf_got hm (hx 15 (by decide))
      have p8:gv ρ 37=OP14.v ⟨8,((3*k:Nat):Int),0,t,nilS⟩:=kf_got hm (hx 21 (by decide))
      have p6:gv ρ 39=OP14.v ⟨0,0,0,ByteArray.empty,slV (gv ρ 38)⟩:=kf_got hm (hx 23 (by decide))
      have p9:gv ρ 44=OP14.v ⟨7,0,0,t,nilS⟩:=kf_got hm (hx 28 (by decide))
      have p7:gv ρ 46=OP14.v ⟨0,0,0,ByteArray.empty,slV (gv ρ 45)⟩:=kf_got hm (hx 30 (by decide))
      obtain ⟨c,hc⟩:∃ c:Nat,gv ρ 47=.slice (some ⟨c,0,none⟩) 10 10:=kf_got hm (hx 31 (by decide))
      have h4:gv ρ 4=gv ρ 47:=kf_got hm (hx 32 (by decide))
      have hh4:has ρ 4=true:=by
        have hlt:32<(goOps kfFn).length:=by rw [kf_len];decide
        have ho:=List.getElem?_eq_getElem hlt
        have:=(hm.got 32 _ (hx 32 (by decide)) ho).1
        rwa [(kf_at ho).2.1] at this
      have ha:allHas ρ [4]=true:=by simp [allHas,hh4]
      rw [ha]
      show Ent B _ (Cur.appV [.slice] K5 [gv ρ 4])
      rw [p1,p2,p3,p0,p4,p5,p8,p6,p9,p7,d1,d2,d3,d4,d5,d6,d7,h4,hc]
      exact hK5 ⟨some ⟨c,0,none⟩,10,10⟩ _ ⟨s1,s2,s3,s4,s5,s6,s7,l1,l2,l3,l4,l5,l6,l7,rfl⟩
  · rintro l _ ⟨s1,s2,s3,s4,s5,s6,s7,l1,l2,l3,l4,l5,l6,l7,rfl⟩
    refine xruns14 65536 (by decide) l (ops10 s1 s2 s3 s4 s5 s6 s7 t ((3*k:Nat):Int)) (show 10≤1000 by decide) (good10 l1 l2 l3 l4 l5 l6 l7 ⟨by omega,by omega⟩) (by simp) ?_ ?_
    · intro o ho
      simp only [ops10,List.mem_cons,List.not_mem_nil,or_false] at ho
      rcases ho with rfl | rfl | rfl | rfl | rfl | rfl | rfl | rfl | rfl | rfl<;>simp
    · refine xiff rfl ?_
      rw [wrap_id (((3*k:Nat):Int)+3) (by omega) (by omega)]
      exact xuse [Ar ST ⟨some ⟨b,0,none⟩,11,11⟩ names11] (hK2 (7 - (k+1)) _ _ (by omega) ⟨k+1,by omega,rfl,by omega,rfl⟩)
end Go.Cx
namespace Go.Cx
open Go Go.Cf
set_option linter.unusedVariables false
set_option maxRecDepth 100000
variable {B:Base}{As F:List HP}{α:Type}
abbrev o14 (k n kk:Int) (s:Sl):OP14:=⟨k,n,kk,ByteArray.empty,s⟩
abbrev ops25 (s s1:Sl) (b b1 b2:Nat):List OP14:=[o14 0 0 0 ⟨some ⟨b,0,none⟩,1,1⟩,o14 0 0 0 nilS,o14 1 0 0 nilS,o14 0 0 0 ⟨some ⟨b1,0,none⟩,1,1⟩,o14 4 0 0 nilS,o14 3 1 0 nilS,o14 3 2 0 nilS,o14 3 (-1) 0 nilS,o14 0 0 0 s,o14 0 0 0 ⟨some ⟨b2,0,none⟩,1,1⟩,o14 1 0 0 nilS,o14 2 2 1 nilS,o14 2 3 2 nilS,o14 2 3 (-9) nilS,o14 3 2 0 nilS,o14 0 0 0 s1,o14 0 0 0 s,o14 0 0 0 s,o14 2 4611686018427387904 0 nilS,o14 0 0 0 s,o14 0 0 0 s,o14 1 0 0 nilS,o14 2 4611686018427387904 2 nilS,o14 2 4611686018427387904 9223372036854775807 nilS,o14 4 0 0 nilS]
abbrev ops15 (s:Sl) (i j:Int) (b4 b5 b6:Nat):List OP14:=[o14 0 0 0 s,o14 0 0 0 s,o14 0 0 0 ⟨some ⟨b4,0,none⟩,1,1⟩,o14 1 0 0 nilS,o14 5 i 0 nilS,o14 2 2 1 nilS,o14 0 0 0 nilS,o14 3 2 0 nilS,o14 3 0 0 nilS,o14 4 j 0 nilS,o14 0 0 0 ⟨some ⟨b5,0,none⟩,1,1⟩,o14 5 i 0 nilS,⟨6,0,0,⟨#[108,111,103,45,57]⟩,⟨some ⟨b6,0,none⟩,1,1⟩⟩,o14 4 3 0 nilS,o14 1 0 0 nilS]
theorem known14_spec:Ct Pr F_law14_SegsKnown [] .one [.bool] [] GTab (fun t Bs=>t.1=true∧Bs=[]):=by
  refine spec1 c_law14_SegsKnown fun B hg=>?_
  haveI:FroP B GTab:=⟨hg,fun _ _ h s=>GTab.mono _ _ h s⟩
  unfold law14_SegsKnown
  have fin:∀ {As:List HP},Ent B As (Ret B (ss:=[.bool]) (fun t Bs=>t.1=true∧Bs=[]) (true,())):=xkeep (l:=[]) (xret ⟨rfl,rfl⟩)
  have z:i64 0:=i64c 0 rfl rfl
  refine xrow14 (by decide) (by decide) fun s hs=>?_
  refine xbyte14 rfl fun b=>xbyte14 rfl fun b1=>xbyte14 rfl fun b2=>?_
  refine xrow14 (by decide) (by decide) fun s1 hs1=>?_
  refine xops14 (ops25 s s1 b b1 b2) 25 rfl rfl fun b3=>?_
  have hg25:∀ o∈ops25 s s1 b b1 b2,good14 o:=by
    intro o ho
    simp only [ops25,List.mem_cons,List.not_mem_nil,or_false] at ho
    rcases ho with rfl | rfl | rfl | rfl | rfl | rfl | rfl | rfl | rfl | rfl | rfl | rfl | rfl | rfl | rfl | rfl | rfl | rfl | rfl | rfl | rfl | rfl | rfl | rfl | rfl <;>
      first | exact ⟨i64c _ rfl rfl,i64c _ rfl rfl,show 1≤4096 by decide⟩ | exact ⟨i64c _ rfl rfl,i64c _ rfl rfl,Nat.zero_le _⟩ | exact ⟨z,z,hs⟩ | exact ⟨z,z,hs1⟩
  have hd25:∀ o∈ops25 s s1 b b1 b2,o.data=nilS∨RowX o.data∈[Ar OPS ⟨some ⟨b3,0,none⟩,25,25⟩ (ops25 s s1 b b1 b2),RowX s1,RowX ⟨some ⟨b2,0,none⟩,1,1⟩,RowX ⟨some ⟨b1,0,none⟩,1,1⟩,RowX ⟨some ⟨b,0,none⟩,1,1⟩,RowX s]:=by
    intro o ho
    simp only [ops25,List.mem_cons,List.not_mem_nil,or_false] at ho
    rcases ho with rfl | rfl | rfl | rfl | rfl | rfl | rfl | rfl | rfl | rfl | rfl | rfl | rfl | rfl | rfl | rfl | rfl | rfl | rfl | rfl | rfl | rfl | rfl | rfl | rfl <;>
      first | exact .inl rfl | exact .inr (by simp)
  refine xruns14 65536 (by decide) ⟨some ⟨b3,0,none⟩,25,25⟩ (ops25 s s1 b b1 b2) (show 25≤1000 by decide) hg25 (List.mem_cons_self ..) hd25 ?_
  refine xjoin (xiff rfl ?_)
  refine xruns14 1100 (by decide) ⟨some ⟨b3,0,none⟩,25,25⟩ (ops25 s s1 b b1 b2) (show 25≤1000 by decide) hg25 (List.mem_cons_self ..) hd25 ?_
  refine xjoin (xiff rfl ?_)
  refine xruns14 2080 (by decide) ⟨some ⟨b3,0,none⟩,25,25⟩ (ops25 s s1 b b1 b2) (show 25≤1000 by decide) hg25 (List.mem_cons_self ..) hd25 ?_
  refine xjoin (xiff rfl ?_)
  refine xruns14 0 (by decide) ⟨some ⟨b3,0,none⟩,25,25⟩ (ops25 s s1 b b1 b2) (show 25≤1000 by decide) hg25 (List.mem_cons_self ..) hd25 ?_
  refine xiff rfl (xuse [RowX s] ?_)
  refine xloop1 (fun n (z:Int) As'=>∃ i:Nat,z=(i:Int)∧n=10 - i∧i≤10∧As'=[RowX s]) 10 ⟨0,rfl,rfl,by omega,rfl⟩ ?_
  rintro n _ _ K ⟨i,rfl,rfl,hi,rfl⟩ hK
  refine xif_dec (fun hlt=>?_) (fun hlt=>?_)
  · refine xbyte14 rfl fun b4=>xbyte14 rfl fun b5=>xbyte14 rfl fun b6=>?_
    have hi2:i64 (i:Int):=⟨by omega,by omega⟩
    have hj:i64 (IntKind.i64.wrap ((i:Int)*5)):=by rw [wrap_id _ (by omega) (by omega)];exact ⟨by omega,by omega⟩
    refine xops14 (ops15 s i (IntKind.i64.wrap ((i:Int)*5)) b4 b5 b6) 15 rfl rfl fun b7=>?_
    refine xruns14 65536 (by decide) ⟨some ⟨b7,0,none⟩,15,15⟩ (ops15 s i (IntKind.i64.wrap ((i:Int)*5)) b4 b5 b6) (show 15≤1000 by decide) ?_ (List.mem_cons_self ..) ?_ ?_
    · intro o ho
      simp only [ops15,List.mem_cons,List.not_mem_nil,or_false] at ho
      rcases ho with rfl | rfl | rfl | rfl | rfl | rfl | rfl | rfl | rfl | rfl | rfl | rfl | rfl | rfl | rfl <;>
        first | exact ⟨i64c _ rfl rfl,i64c _ rfl rfl,show 1≤4096 by decide⟩ | exact ⟨i64c _ rfl rfl,i64c _ rfl rfl,Nat.zero_le _⟩ | exact ⟨z,z,hs⟩ | exact ⟨hi2,z,Nat.zero_le _⟩ | exact ⟨hj,z,Nat.zero_le _⟩
    · intro o ho
      simp only [ops15,List.mem_cons,List.not_mem_nil,or_false] at ho
      rcases ho with rfl | rfl | rfl | rfl | rfl | rfl | rfl | rfl | rfl | rfl | rfl | rfl | rfl | rfl | rfl <;>
        first | exact .inl rfl | exact .inr (by simp)
    · refine xiff rfl ?_
      rw [wrap_succ i (by omega)]
      exact xuse [RowX s] (hK (10 - (i+1)) _ _ (by omega) ⟨i+1,rfl,rfl,by omega,rfl⟩)
  · refine xcall0 files14_spec rdb ?_
    rintro ⟨c,_⟩ _ ⟨hc,rfl⟩
    simp only at hc;subst hc
    refine app0 (ca1 (xjoin (xift rfl ?_)))
    refine xcall0 heads14_spec rdb ?_
    rintro ⟨c,_⟩ _ ⟨hc,rfl⟩
    simp only at hc;subst hc
    refine app0 (ca1 (xjoin (xift rfl ?_)))
    refine xcall0 works14_spec rdb ?_
    rintro ⟨c,_⟩ _ ⟨hc,rfl⟩
    simp only at hc;subst hc
    exact app0 (ca1 fin)
end Go.Cx
namespace Go.Cx
open Go Go.Cf Go.RowKit Go.ChangeShapes Go.WideShapes Go.Deep
set_option linter.unusedVariables false
set_option maxRecDepth 100000
theorem tabType:(Pr.globals[0]?).map (·.type)=some 161:=by kernel_rfl
theorem cU:Pr.cellsOf 83=1:=by kernel_rfl
theorem cA:Pr.cellsOf 161=20:=by kernel_rfl
theorem GTab_of {W:World}(h:Lib.TabIs Pr W "internal/strconv.uint64pow10" .u64 Lib.pow10Tab):GTab (mem W):=by
  unfold Lib.TabIs World.var? at h
  rw [globTab] at h
  simp only [Option.bind_some] at h
  show ∃ e fr,W.heap[_]? = some _
  split at h
  · rename_i cs e fr hh
    obtain rfl:=Option.some.inj h
    exact ⟨e,fr,hh⟩
  · cases h
theorem GTab_of_laid {W:World}{a b:String×DataW Unit}{rest:List (String×DataW Unit)}(h:laidMet Pr (a::b::("internal/strconv.uint64pow10",Lib.tabData .u64 Lib.pow10Tab)::rest) W):GTab (mem W):=by
  obtain ⟨ps,hv,_⟩:=h
  obtain ⟨n1,d1⟩:=a
  obtain ⟨n2,d2⟩:=b
  obtain ⟨g1,t1,cs1,fu1,p1,q1,hg1,ht1,hvar1,hd1,hv2,_⟩:=hv
  obtain ⟨g2,t2,cs2,fu2,p2,q2,hg2,ht2,hvar2,hd2,hv3,_⟩:=hv2
  obtain ⟨g3,t3,cs3,fu3,p3,q3,hg3,ht3,hvar3,hd3,_,_⟩:=hv3
  obtain rfl:=Option.some.inj (globTab.symm.trans hg3)
  obtain rfl:=Option.some.inj (tabType.symm.trans ht3)
  refine GTab_of ?_
  unfold Lib.TabIs
  rw [hvar3]
  have:=Lib.cells_of_tab (by kernel_rfl:Pr.underlying 161=some (.array 20 83)) (by kernel_rfl:Pr.underlying 83=some (.int .u64)) cU cA hd3
  rw [←this]
end Go.Cx
