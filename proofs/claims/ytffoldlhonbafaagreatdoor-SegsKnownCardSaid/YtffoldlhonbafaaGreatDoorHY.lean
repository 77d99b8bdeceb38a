/-
  Records as words.
  A row of words told again.
  Files of records; a store that is laid.
  A store that is laid; what each statement of the history asks.
  A store that is laid; what each statement of the history asks.
  What each statement of the history asks; a row is told as it was.
  The law HistoryBack.
  The document's rows of words.
-/
import Derived.Test.YtffoldlhonbafaaGreatDoorT1
import Derived.Test.YtffoldlhonbafaaGreatDoorA4
import Derived.Test.YtffoldlhonbafaaGreatDoorA3
namespace Go.Cx
open Go Go.Cf
set_option linter.unusedVariables false
set_option maxRecDepth 100000
variable {B:Base}{As F:List HP}
theorem packPut_spec (b:Sl) (xs:List UInt8) (v:Nat) (hv:v<18446744073709551616) (hm:xs.length≤1048576):Ct Pr F_pack_Put [b.v,.int .u64 (v:Int),.int .i64 8] (.tup [none,none]) [.slice,.int .i64] [] (RAr U8 b xs)
    (fun t Bs=>t.2.1=0∧Bs=[Ar U8 t.1 (xs++be8 v)]):=by
  refine spec2 c_pack_Put fun B hr=>?_
  have fb:Fro B b U8 xs:=⟨hr⟩
  have hb:=hr.1
  unfold pack_Put
  refine xjoin (xiff rfl (xjoin (xiff rfl (xiff rfl ?_))))
  rw [show IntKind.i64.wrap ((b.n:Int)+8)=((xs.length+8:Nat):Int) by rw [wrap_id _ (by omega) (by omega)];omega]
  refine xmake2 U8 (xs.length+8) (xs.length+8) (by omega) (by omega) (h:=fun b1=>?_)
  rw [Nat.sub_self]
  refine xcopyW (s:=⟨some ⟨b1,0,none⟩,xs.length+8,xs.length+8⟩) (y:=b) (ys:=xs) (fun w hw=>?_) (hl:=by simp) (hn:=by simp) (hc:=Nat.le_refl _) (h:=fun n=>?_)
  · exact RdA.rd w hw
  refine xar ?_
  refine xloop1 (fun n i As=>∃ (k:Nat) (ys:List UInt8),i=(k:Int)∧n=8 - k∧k≤8∧ys.length=xs.length+8∧(∀ j,j<xs.length→ys[j]? = xs[j]?)∧(∀ j,j<k→ys[xs.length+7 - j]? = some (UInt8.ofNat (v / 256 ^ j)))∧As=[Ar U8 ⟨some ⟨b1,0,none⟩,xs.length+8,xs.length+8⟩ ys]) 8 ⟨0,_,rfl,rfl,by omega,by simp,fun j hj=>by rw [List.getElem?_append_left hj],fun j hj=>by omega,rfl⟩ ?_
  rintro n _ _ K ⟨k,ys,rfl,rfl,hk,hl,h1,h2,rfl⟩ hK
  refine xif_dec (fun h=>?_) (fun h=>?_)
  · have hk8:k<8:=by omega
    obtain ⟨e1,e2⟩:=shift_le k hk8
    refine xasrt e2 ?_
    rw [e1,shr_eq v _ (256 ^ k) rfl,byte_of]
    have ei:IntKind.i64.wrap (IntKind.i64.wrap (((xs.length+8:Nat):Int) - 1) - (k:Int))=((xs.length+7 - k:Nat):Int):=by
      rw [wrap_id (((xs.length+8:Nat):Int) - 1) (by omega) (by omega),wrap_id _ (by omega) (by omega)];omega
    rw [ei]
    have hy:=List.getElem?_eq_getElem (l:=ys) (i:=xs.length+7 - k) (by omega)
    refine xidxn (h1:=by omega) (h:=fun _ _=>?_)
    refine xsetE (UInt8.ofNat (v / 256 ^ k)) hy (hv:=rfl) (h:=?_)
    rw [wrap_succ k (by omega)]
    refine hK (8 - (k+1)) _ _ (by omega) ⟨k+1,_,rfl,rfl,by omega,by simpa using hl,fun j hj=>?_,fun j hj=>?_,rfl⟩
    · rw [List.getElem?_set_ne (by omega)];exact h1 j hj
    · rcases Nat.lt_or_ge j k with h3 | h3
      · rw [List.getElem?_set_ne (by omega)];exact h2 j h3
      · obtain rfl:j=k:=by omega
        rw [List.getElem?_set_self (by omega)]
  · have hk8:k=8:=by omega
    subst hk8
    have:ys=xs++be8 v:=by
      refine eq_upto (by rw [List.length_append,be8_len,hl]) (fun j hj=>?_)
      rcases Nat.lt_or_ge j xs.length with h3 | h3
      · rw [h1 j h3,List.getElem?_append_left h3]
      · have h4:j<xs.length+8:=by rw [List.length_append,be8_len] at hj;exact hj
        have:=h2 (xs.length+7 - j) (by omega)
        rw [show xs.length+7 - (xs.length+7 - j)=j by omega] at this
        rw [this,List.getElem?_append_right h3,be8_get v (by omega),show 7 - (j - xs.length)=xs.length+7 - j by omega]
    rw [this]
    exact xret ⟨rfl,rfl⟩
theorem Ars.dropc {α:Type}{E:Enc α}{s:Sl}{xs zs:List α}{h:Frag}(ha:Ars E s xs zs h) (l:Nat) (hl:l≤xs.length):Ars E (s.cut l s.n s.c E.sz) (xs.drop l) zs h:=by
  obtain ⟨p,n,c⟩:=s
  obtain ⟨h1,h2,h3⟩:=ha
  simp only at h1 h2 h3
  refine ⟨by simp [Sl.cut];omega,by simp [Sl.cut];omega,?_⟩
  rcases h3 with ⟨h4,h5⟩ | ⟨b,o,pre,post,e,fr,hp,hb,ho,hfr,hM⟩
  · subst h4 h5
    refine .inl ⟨?_,by simp [Sl.cut]⟩
    simp only [Sl.cut];split<;>rfl
  · have e0:pre++flat E (xs++zs)++post=(pre++flat E (xs.take l))++flat E (xs.drop l++zs)++post:=by
      have e1:flat E (xs++zs)=flat E (xs.take l)++flat E (xs.drop l++zs):=by rw [←flat_append,←List.append_assoc,List.take_append_drop]
      rw [e1];simp only [List.append_assoc]
    have hpl:(pre++flat E (xs.take l)).length=o+l*E.sz:=by rw [List.length_append,flat_length,ho,List.length_take,Nat.min_eq_left hl]
    by_cases hc:c=l
    · refine .inr ⟨b,o,pre,flat E xs++post,e,fr,?_,?_,ho,?_,by simp only [Sl.cut];omega⟩
      · simp only [Sl.cut];rw [if_pos hc,hp]
      · have ez:zs=[]:=List.eq_nil_of_length_eq_zero (by omega)
        have ed:xs.drop l=[]:=List.eq_nil_of_length_eq_zero (by simp;omega)
        rw [ed,ez,hb,ez];simp [flat]
      · intro i hi
        refine hfr i ?_
        have ez:zs=[]:=List.eq_nil_of_length_eq_zero (by omega)
        have ed:xs.drop l=[]:=List.eq_nil_of_length_eq_zero (by simp;omega)
        rw [ed,ez] at hi
        rw [ez]
        simpa [flat] using hi
    · refine .inr ⟨b,o+l*E.sz,pre++flat E (xs.take l),post,e,fr,?_,by rw [←e0];exact hb,hpl,by rw [←e0];exact hfr,by simp only [Sl.cut];omega⟩
      simp only [Sl.cut]
      rw [if_neg hc,hp]
      simp [add_none]
end Go.Cx
namespace Go.Cx
open Go Go.Cf
set_option linter.unusedVariables false
set_option maxRecDepth 100000
variable {B:Base}{As F:List HP}
end Go.Cx
namespace Go.Cx
open Go Go.Cf
set_option linter.unusedVariables false
set_option maxRecDepth 100000
variable {B:Base}{As F:List HP}
end Go.Cx
namespace Go.Cx
open Go Go.Cf
set_option linter.unusedVariables false
set_option maxRecDepth 100000
variable {B:Base}{As F:List HP}
theorem tw_step {α:Type}{P:α→Bool}:∀ {L:List α}{k:Nat}{y:α},k≤(L.takeWhile P).length→L[k]? = some y→P y=true→k+1≤(L.takeWhile P).length
  | [],k,y,_,h,_=>by simp at h
  | x::L,k,y,hk,hy,hp=>by
    cases hx:P x with
    | false=>
      rw [List.takeWhile_cons_of_neg (by rw [hx];simp)] at hk
      obtain rfl:k=0:=by simpa using hk
      obtain rfl:x=y:=by simpa using hy
      rw [hx] at hp;cases hp
    | true=>
      rw [List.takeWhile_cons_of_pos hx] at hk ⊢
      cases k with
      | zero=>simp
      | succ k=>
        simp only [List.length_cons] at hk ⊢
        have:=tw_step (L:=L) (k:=k) (by omega) (by simpa using hy) hp
        omega
theorem tw_stop {α:Type}{P:α→Bool}:∀ {L:List α}{k:Nat},k≤(L.takeWhile P).length→(∀ y,L[k]? = some y→P y=false)→(L.takeWhile P).length=k
  | [],k,hk,_=>by simp at hk ⊢;omega
  | x::L,k,hk,hn=>by
    cases hx:P x with
    | false=>
      rw [List.takeWhile_cons_of_neg (by rw [hx];simp)] at hk ⊢
      simp at hk ⊢;omega
    | true=>
      rw [List.takeWhile_cons_of_pos hx] at hk ⊢
      cases k with
      | zero=>have:=hn x rfl;rw [hx] at this;cases this
      | succ k=>
        simp only [List.length_cons] at hk ⊢
        have:=tw_stop (L:=L) (k:=k) (by omega) (fun y hy=>hn y (by simpa using hy))
        omega
end Go.Cx
namespace Go.Cx
open Go Go.Cf
set_option linter.unusedVariables false
set_option maxRecDepth 100000
variable {B:Base}{As F:List HP}
end Go.Cx
namespace Go.Cx
open Go Go.Cf
set_option linter.unusedVariables false
set_option maxRecDepth 100000
variable {B:Base}{As F:List HP}
end Go.Cx
namespace Go.Cx
open Go Go.Cf
set_option linter.unusedVariables false
set_option maxRecDepth 100000
variable {B:Base}{As F:List HP}
end Go.Cx
namespace Go.Cx
open Go Go.Cf
set_option linter.unusedVariables false
set_option maxRecDepth 100000
variable {B:Base}{As F:List HP}
end Go.Cx
