/-
What a call can come to, reckoned with a table of what leads where and with numbers as sets.
-/
import GoSem.ClaimGoes
import Derived.KernelRfl
namespace Go.Cf
open Go
/-- The functions that a call comes to, by a table: `bits` says which are seen. -/
def QXa(T:List (List Nat)):Nat→List Nat→Nat→List Nat→Option (List Nat)
 | 0,_,_,_=>none
 | _+1,[],_,acc=>some acc.reverse
 | n+1,f::todo,bits,acc=>if bits.testBit f then QXa T n todo bits acc else QXa T n (T.getD f []++todo) (bits ||| (1 <<< f)) (f::acc)

theorem QVD{P:Program}{T:List (List Nat)}(d:∀f,(P.funcs[f]?).elim [] P.leadsTo=T.getD f []):∀(n:Nat) (a:List Nat) (c:Nat) (b:List Nat),(∀f:Nat,c.testBit f=b.contains f) →
  ∀L,QXa T n a c b=some L→∀m,n≤m→P.closureVia m a b=L:=by
 intro n
 induction n with
 | zero=>intro a c b _ L h;cases h
 | succ n ih=>
  intro a c b hb L h m i;obtain⟨m,rfl⟩:∃k,m=k+1:=⟨m - 1,by omega⟩
  cases a with
  | nil=>simpa [QXa,Program.closureVia]using h
  | cons f a=>
   simp only[QXa]at h;simp only[Program.closureVia];rw[←hb f];split at h
   ·rename_i hc
    rw[if_pos hc];exact ih a c b hb L h m (by omega)
   ·rename_i hc
    rw[if_neg hc,d f];refine ih _ _ _ (fun g=>?_) L h m (by omega);rw[Nat.testBit_or,hb g,List.contains_cons,Bool.or_comm,Nat.one_shiftLeft,Nat.testBit_two_pow];congr 1;by_cases e:f=g
    ·subst e;simp
    ·simp[e,Ne.symm e]

theorem Qcf{P:Program}{T:List (List Nat)}(h:P.funcs.toList.map P.leadsTo=T)(f:Nat):(P.funcs[f]?).elim [] P.leadsTo=T.getD f []:=by
 subst h;rw[List.getD_eq_getElem?_getD,List.getElem?_map]
 have e:P.funcs[f]? = P.funcs.toList[f]?:=by simp
 rw[e];cases P.funcs.toList[f]? <;> rfl

theorem QYx{P:Program}{T:List (List Nat)}(h:P.funcs.toList.map P.leadsTo=T){f:Nat}{n:Nat}{L:List Nat}(a:QXa T n [f] 0 []=some L)(hn:n≤1+(T.map fun l=>l.length+1).sum):P.closure f=L:=by
 unfold Program.closure
 have e:(P.funcs.toList.map fun g=>(P.leadsTo g).length+1)=T.map fun l=>l.length+1:=by rw[←h,List.map_map];rfl
 rw[e];exact QVD (Qcf h) n [f] 0 [] (fun g=>by simp) L a _ hn

theorem QZd{P:Program}(h:P.funcs.any Func.goes=false)(f:Nat):P.goes f=false:=by
 unfold Program.goes;rw[h,Bool.and_false,Bool.or_false];rw[List.any_eq_false];intro g _ a
 cases e:P.funcs[g]? with
 | none=>rw[e]at a;cases a
 | some fn=>
  rw[e]at a;have b:=Array.mem_of_getElem? e;rw[Array.any_eq_false']at h;exact h fn b a
theorem QU2{P:Program}(h:P.funcs.any Func.goes=false){c:OpenClaim}(a:c.start=.entering):false=c.goesBy P:=by
 unfold OpenClaim.goesBy Program.goesAt Program.goesFrom;rw[a]
 cases P.funcNamed c.func with
 | none=>rfl
 | some f=>simp[QZd h f]

end Go.Cf
