import GoSem.ClaimGoes
import Derived.KernelRfl
namespace Go.Cf
open Go
def QWP(T:List (List Nat)):Nat→List Nat→Nat→List Nat→Option (List Nat)
 | 0,_,_,_=>none
 | _+1,[],_,acc=>some acc.reverse
 | n+1,f::todo,bits,acc=>if bits.testBit f then QWP T n todo bits acc else QWP T n (T.getD f []++todo) (bits ||| (1 <<< f)) (f::acc)

theorem QTg{P:Program}{T:List (List Nat)}(hT:∀f,(P.funcs[f]?).elim [] P.leadsTo=T.getD f []):∀(n:Nat) (todo:List Nat) (bits:Nat) (acc:List Nat),(∀f:Nat,bits.testBit f=acc.contains f) →
  ∀L,QWP T n todo bits acc=some L→∀m,n≤m→P.closureVia m todo acc=L:=by
 intro n
 induction n with
 | zero=>intro todo bits acc _ L h;cases h
 | succ n ih=>
  intro todo bits acc hb L h m hm;obtain⟨m,rfl⟩:∃k,m=k+1:=⟨m - 1,by omega⟩
  cases todo with
  | nil=>simpa [QWP,Program.closureVia]using h
  | cons f todo=>
   simp only[QWP]at h;simp only[Program.closureVia];rw[←hb f];split at h
   ·rename_i hc
    rw[if_pos hc];exact ih todo bits acc hb L h m (by omega)
   ·rename_i hc
    rw[if_neg hc,hT f];refine ih _ _ _ (fun g=>?_) L h m (by omega);rw[Nat.testBit_or,hb g,List.contains_cons,Bool.or_comm,Nat.one_shiftLeft,Nat.testBit_two_pow];congr 1;by_cases e:f=g
    ·subst e;simp
    ·simp[e,Ne.symm e]

theorem Qbb{P:Program}{T:List (List Nat)}(h:P.funcs.toList.map P.leadsTo=T)(f:Nat):(P.funcs[f]?).elim [] P.leadsTo=T.getD f []:=by
 subst h;rw[List.getD_eq_getElem?_getD,List.getElem?_map]
 have e:P.funcs[f]? = P.funcs.toList[f]?:=by simp
 rw[e];cases P.funcs.toList[f]? <;> rfl

theorem QWd{P:Program}{T:List (List Nat)}(h:P.funcs.toList.map P.leadsTo=T){f:Nat}{n:Nat}{L:List Nat}(hL:QWP T n [f] 0 []=some L)(hn:n≤1+(T.map fun l=>l.length+1).sum):P.closure f=L:=by
 unfold Program.closure
 have e:(P.funcs.toList.map fun g=>(P.leadsTo g).length+1)=T.map fun l=>l.length+1:=by rw[←h,List.map_map];rfl
 rw[e];exact QTg (Qbb h) n [f] 0 [] (fun g=>by simp) L hL _ hn

theorem QYf{P:Program}(h:P.funcs.any Func.goes=false)(f:Nat):P.goes f=false:=by
 unfold Program.goes;rw[h,Bool.and_false,Bool.or_false];rw[List.any_eq_false];intro g _ hg
 cases e:P.funcs[g]? with
 | none=>rw[e]at hg;cases hg
 | some fn=>
  rw[e]at hg;have hm:=Array.mem_of_getElem? e;rw[Array.any_eq_false']at h;exact h fn hm hg
theorem QTe{P:Program}(h:P.funcs.any Func.goes=false){c:OpenClaim}(hs:c.start=.entering):false=c.goesBy P:=by
 unfold OpenClaim.goesBy Program.goesAt Program.goesFrom;rw[hs]
 cases P.funcNamed c.func with
 | none=>rfl
 | some f=>simp[QYf h f]

end Go.Cf
