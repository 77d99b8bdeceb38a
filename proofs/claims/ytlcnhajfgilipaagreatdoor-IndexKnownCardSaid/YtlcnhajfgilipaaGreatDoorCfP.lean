/-
  A formula's parts with the orders of its regions checked ahead, on their own.
-/
import Derived.Test.YtlcnhajfgilipaaGreatDoorA3
namespace Go.Cf
open Go
set_option linter.unusedVariables false

/-- The drawn regions of code. -/
def regs:Code→List (List Oper)
  | .region _ ops true=>[ops.toList]
  | .seq a b=>regs a++regs b
  | .cond _ a b=>regs a++regs b
  | .block _ b=>regs b
  | .scope b=>regs b
  | .loop b=>regs b
  | _=>[]
theorem wpC_congr {P:Program}{N:Nat}{dp:List Nat}{D E:List Oper→Env→(Env→WP)→WP}(c:Code):(∀ ops∈regs c,D ops=E ops)→∀ (ρ:Env) (KN:Env→WP) (KX:List (Nat×(Env→WP))) (KR:Env→WP),
    wpC P N dp D c ρ KN KX KR=wpC P N dp E c ρ KN KX KR:=by
  induction c with
  | region l ops b=>
    intro h ρ KN KX KR
    cases b with
    | false=>rfl
    | true=>show XDraw (D ops.toList ρ KN)=XDraw (E ops.toList ρ KN);rw [h ops.toList (by simp [regs])]
  | seq a b iha ihb=>
    intro h ρ KN KX KR
    have ha:=iha fun o ho=>h o (by simp [regs,ho])
    have hb:=ihb fun o ho=>h o (by simp [regs,ho])
    simp only [wpC,ha,hb]
  | cond c a b iha ihb=>
    intro h ρ KN KX KR
    have ha:=iha fun o ho=>h o (by simp [regs,ho])
    have hb:=ihb fun o ho=>h o (by simp [regs,ho])
    simp only [wpC,ha,hb]
  | block id b ih=>
    intro h ρ KN KX KR
    simp only [wpC,ih h]
  | scope b ih=>
    intro h ρ KN KX KR
    simp only [wpC,ih h]
  | loop b ih=>
    intro h ρ KN KX KR
    simp only [wpC,ih h]
  | _=>intro h ρ KN KX KR;rfl
theorem wpLs_congr {P:Program}{N:Nat}{dp:List Nat}{D E:List Oper→Env→(Env→WP)→WP}:∀ (cs:List Code),(∀ ops∈cs.flatMap regs,D ops=E ops)→∀ (ρ:Env) (KN:Env→WP) (KX:List (Nat×(Env→WP))) (KR:Env→WP),
    wpLs P N dp D cs ρ KN KX KR=wpLs P N dp E cs ρ KN KX KR
  | [],_,_,_,_,_=>rfl
  | c::cs,h,ρ,KN,KX,KR=>by
    have hb:=wpLs_congr (P:=P) (N:=N) (dp:=dp) cs (fun o ho=>h o (by simp only [List.flatMap_cons,List.mem_append];exact .inr ho))
    show wpC P N dp D c ρ (fun ρ'=>wpLs P N dp D cs ρ' KN KX KR) KX KR=wpC P N dp E c ρ (fun ρ'=>wpLs P N dp E cs ρ' KN KX KR) KX KR
    rw [wpC_congr c (fun o ho=>h o (by simp only [List.flatMap_cons,List.mem_append];exact .inl ho))]
    simp only [hb]

/-- A drawn region, its orders not checked. -/
def wpDrU (P:Program) (fn:Func) (N:Nat) (ops:List Oper) (ρ:Env) (KN:Env→WP):WP:=
  let S:=mkSteps P ops (befsOf ops []) (ops.length+1) ((List.range ops.length).filter fun i=>!(isNulAt P ops i)) [] []
  bif drJoin ops S then
    (let cs:=unionN (liveOut fn ops) (dstsOf (ops.filter fun o=>match o.dst with | some t=>has ρ t | none=>false) [])
     let ss:=cs.map (shOut P ops ρ)
     XJoin ss (fun K=>wpSteps P N ops S [] ρ fun ρ'=>bif allHas ρ' cs then Cur.appV ss K (cs.map (gv ρ')) else bad) (Cur.of ss fun vs=>KN (zipE cs vs ρ)))
  else wpSteps P N ops S [] ρ KN
def regOk (P:Program) (N:Nat) (ops:List Oper):Bool:=drChk P N ops (befsOf ops []) (mkSteps P ops (befsOf ops []) (ops.length+1) ((List.range ops.length).filter fun i=>!(isNulAt P ops i)) [] [])
theorem wpDr_unchecked {P:Program}{fn:Func}{N:Nat}{ops:List Oper}(h:regOk P N ops=true):wpDr P fn N ops=wpDrU P fn N ops:=by
  funext ρ KN
  unfold regOk at h
  unfold wpDr wpDrU
  simp only [h,cond_true]
  rfl
theorem rest_unchecked {P:Program}{fn:Func}{dp:List Nat}{ss:List Sh}{R:Cur ss}{k:Nat}(n:Nat) {ρ:Env}(h:((partC fn k n).flatMap regs).all (regOk P fn.ntmps)=true) :
    wpRest P fn dp ss R k ρ=wpLs P fn.ntmps dp (wpDrU P fn fn.ntmps) (partC fn k n) ρ (wpRest P fn dp ss R (k+n)) [] (wpRet P fn ss R):=by
  rw [rest_part (n:=n),wpLs_congr (E:=wpDrU P fn fn.ntmps)]
  exact fun ops ho=>wpDr_unchecked (List.all_eq_true.1 h ops ho)
end Go.Cf
