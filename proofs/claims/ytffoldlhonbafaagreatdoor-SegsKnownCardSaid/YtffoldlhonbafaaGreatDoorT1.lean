/-
  The tree of keys: what its calls do.
  The tree of keys: putting.
  The tree of keys: Put, New, Len.
  The tree of keys: Range.
  A name, as the tags have it.
  Records: what is right of one, and the record that bytes are.
  Records: the record that bytes are.
  Records: a record as bytes.
  The index: its calls.
  What an index holds that was opened over a log.
  A log that is filled.
-/
import Derived.Test.YtffoldlhonbafaaGreatDoorDK
import Derived.Test.YtffoldlhonbafaaGreatDoorA3
import Derived.Test.YtffoldlhonbafaaGreatDoorA4
import Derived.Test.YtffoldlhonbafaaGreatDoorS1
namespace Go.Cx
open Go Go.Cf
set_option linter.unusedVariables false
set_option maxRecDepth 100000
variable {B:Base}{As F:List HP}
theorem each_part {α β:Type}{R:α→β→HP}:∀ {xs:List α}{ys:List β}(n:Nat) {h:Frag},Each R xs ys h→star [Each R (xs.take n) (ys.take n),Each R (xs.drop n) (ys.drop n)] h
  | [],[],n,h,hh=>by simp only [List.take_nil,List.drop_nil];exact ⟨fun _=>none,h,trivial,star_in trivial,fun _=>.inl rfl,fun _ _ e=>(by cases e),Sub.refl _⟩
  | [],_::_,n,h,hh=>hh.elim
  | _::_,[],n,h,hh=>hh.elim
  | x::xs,y::ys,0,h,hh=>⟨fun _=>none,h,trivial,star_in hh,fun _=>.inl rfl,fun _ _ e=>(by cases e),Sub.refl _⟩
  | x::xs,y::ys,n+1,h,hh=>by
    have h1:star [R x y,Each R (xs.take n) (ys.take n),Each R (xs.drop n) (ys.drop n)] h:=star_cons (fun g hg=>by
      obtain ⟨a,b,pa,_,_,sa,_⟩:=hg
      exact star_mono _ (each_part n pa) sa) hh
    have h2:star ([R x y,Each R (xs.take n) (ys.take n)]++[Each R (xs.drop n) (ys.drop n)]) h:=h1
    exact star_fold1 (l:=[R x y,Each R (xs.take n) (ys.take n)]) (P:=Each R ((x::xs).take (n+1)) ((y::ys).take (n+1))) (fun g hg=>hg) h2
end Go.Cx
namespace Go.Cx
open Go Go.Cf
set_option linter.unusedVariables false
set_option maxRecDepth 100000
variable {B:Base}{As F:List HP}
end Go.Cx
namespace Go.Cx
open Go Go.Cf
set_option linter.unusedVariables false
set_option maxRecDepth 100000
variable {B:Base}{As F:List HP}
end Go.Cx
namespace Go.Cx
open Go Go.Cf
set_option linter.unusedVariables false
set_option maxRecDepth 100000
variable {B:Base}{As F:List HP}
end Go.Cx
namespace Go.Cx
open Go Go.Cf
set_option linter.unusedVariables false
variable {B:Base}{As:List HP}
end Go.Cx
namespace Go.Cx
open Go Go.Cf
set_option linter.unusedVariables false
set_option maxRecDepth 100000
variable {B:Base}{As F:List HP}
end Go.Cx
namespace Go.Cx
open Go Go.Cf
set_option linter.unusedVariables false
set_option maxRecDepth 100000
variable {B:Base}{As F:List HP}
end Go.Cx
namespace Go.Cx
open Go Go.Cf
set_option linter.unusedVariables false
set_option maxRecDepth 100000
variable {B:Base}{As F:List HP}
end Go.Cx
namespace Go.Cx
open Go Go.Cf
set_option linter.unusedVariables false
set_option maxRecDepth 100000
variable {B:Base}{As F:List HP}
theorem LInv.lo {l:LM}(h:LInv l):0≤l.lo∧l.lo≤4000000000000:=by
  unfold LM.lo
  cases e:l.segs with
  | nil=>have:=h.first;simp only;omega
  | cons s r=>have:=(h.segs s (by rw [e];simp)).2.1;simp only;omega
theorem getL_len {l:LM}(hi:LInv l) (n:Int):(getL l n).1.length≤1024:=by
  unfold getL
  split
  · simp
  · split
    · rename_i s hs
      have hm:=(hi.segs s (List.mem_of_find?_eq_some hs)).2.2.2.2
      cases e:s.ps[(n - s.first).toNat]? with
      | none=>simp
      | some p=>exact hm p (List.mem_of_getElem? e)
    · simp
end Go.Cx
namespace Go.Cx
open Go Go.Cf
set_option linter.unusedVariables false
set_option maxRecDepth 100000
end Go.Cx
namespace Go.Cx
open Go Go.Cf
set_option linter.unusedVariables false
set_option maxRecDepth 100000
variable {B:Base}{As F:List HP}
end Go.Cx
