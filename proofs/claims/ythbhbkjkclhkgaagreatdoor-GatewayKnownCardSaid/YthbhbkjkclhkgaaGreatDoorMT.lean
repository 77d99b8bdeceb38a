import Derived.Test.YthbhbkjkclhkgaaGreatDoorDK
import Derived.Tactics
import Derived.Tactics2
import Derived.TacticsInMore
import Derived.RecoverIn
import Derived.DefersIn
import Derived.WideLaws
import Derived.Test.YthbhbkjkclhkgaaGreatDoorA3
namespace Go.Cx
open Go Go.Cf
set_option maxRecDepth 100000
theorem QgQ:Pr.underlying 20=some (.interface (Pr.methodsAt 20)):=by kernel_rfl
theorem QYs:QPj Pr QCl QIc:=by
 have hnil:∀w,(binOp .neq 20 .nilIface .nilIface).run Pr w=.ok (.bool false) w:=fun w=>run_neq_nil_nil w 20 QgQ;have hheld:∀w,(binOp .neq 20 (.iface 323 (.agg #[])) .nilIface).run Pr w=.ok (.bool true) w:=fun w=>run_neq_held_nil w 20 323 (.agg #[]) QgQ
 have has:∀w,(Instr.typeAssert (.iface 323 (.agg #[])) 20 323 true).run Pr w=.ok (.tuple #[.agg #[],.bool true]) w:=fun w=>by
  simp[Instr.typeAssert,go_sem]
 refine⟨by kernel_rfl,fun ad w=>?_,fun ad w h1 h2=>?_⟩
 ·refine callsDIn_of_wpSIn (f:=126) (fn:=Go.Proofs.Tryz.f126) rfl rfl trivial fun c₀ cs hu=>?_;apply wpSIn_seq;apply wpSIn_region;simp[wpOpsSIn,go_sem,recoverD,hu,Exit.thenS];apply wpSIn_seq;apply wpSIn_region;simp[wpOpsSIn,go_sem,hnil,Exit.thenS];refine wpSIn_cond (t:=false) (by simp[Act.eval,Array.replicate]) ?_;simp only[Bool.false_eq_true,if_false];refine wpSIn_of_wpIn rfl (wpIn_skip ?_);cases c₀;simp_all [bodyPostS,results]
 ·refine callsDIn_of_wpSIn (f:=126) (fn:=Go.Proofs.Tryz.f126) rfl rfl trivial fun c₀ cs hu=>?_;unfold QCl at hu;apply wpSIn_seq;apply wpSIn_region;simp[wpOpsSIn,go_sem,recoverD,hu,Exit.thenS];apply wpSIn_seq;apply wpSIn_region;simp[wpOpsSIn,go_sem,hheld,Exit.thenS];refine wpSIn_cond (t:=true) (by simp[Act.eval,Array.replicate]) ?_;simp only[if_true];apply wpSIn_seq;apply wpSIn_seq;apply wpSIn_region;simp[wpOpsSIn,go_sem,has,Exit.thenS];apply wpSIn_seq;apply wpSIn_region;simp[wpOpsSIn,go_sem,Exit.thenS];refine wpSIn_cond (t:=false) (by simp[Act.eval,Array.replicate]) ?_;simp only[Bool.false_eq_true,if_false];refine wpSIn_of_wpIn rfl (wpIn_skip ?_);simp only[Exit.thenS];apply wpSIn_region;obtain⟨v,hv⟩:=h1;have hv:(w.alloc (.cells #[] 323)).cell? ad=some v:=hv;have h2:(w.alloc (.cells #[] 323)).frozen? ad=false:=h2;simp[wpOpsSIn,go_sem,hv,h2,bodyPostS,results,settle];rfl
theorem QYI(e:Int):CtP QCl Pr 129 [.I e] .one [.I] [] emp (fun t Bs=>e≠10∧t.1=e∧Bs=[]) (fun Bs=>e=10∧Bs=[]):=by
 intro w h hs hm hr;show Calls Pr 129 #[.I e] w _;have h0:Sx ⟨w,h⟩ [] w:=Sx.start hs hm;by_cases he:e=10
 ·refine Calls.mono (R:=fun e' w'=>e'=.panicked QCl∧w'=w) ?_ fun e' w' h=>.inr ⟨[],h.1,⟨he,rfl⟩,h.2 ▸ h0⟩;subst he;refine calls_of_wp (fn:=Go.Proofs.Tryz.f129) rfl rfl ?_;apply wp_seq;apply wp_region;simp[wpOps,go_sem,Exit.then];refine .inl ?_;apply wp_seq;apply wp_seq;apply wp_region;simp[wpOps,go_sem,Exit.then];iterate 2 (refine .inl ?_)
  refine wp_cond (t:=true) ?_ ?_
  ·simp[Act.eval]
  simp only[if_true];apply wp_region
  have hb:∀w,(Instr.build 323 #[]).run Pr w=.ok (.agg #[]) w:=fun w=>by kernel_rfl
  have hi:∀w,(Instr.makeInterface 323 (.agg #[])).run Pr w=.ok (.iface 323 (.agg #[])) w:=fun w=>by rfl
  have hp:∀w,(Instr.panic (.iface 323 (.agg #[]))).run Pr w=.halt (.panic (.iface 323 (.agg #[]))) w:=fun w=>rfl;simp[wpOps,go_sem,Exit.then,bodyPost,hb,hi,hp];iterate 3 (refine .inl ?_)
  rfl
 ·refine Calls.mono (R:=fun e' w'=>e'=.returned (.I e)∧w'=w) ?_ fun e' w' h=>.inl ⟨(e,()),[],h.1,⟨he,rfl,rfl⟩,h.2 ▸ h0⟩;refine calls_of_wp (fn:=Go.Proofs.Tryz.f129) rfl rfl ?_;apply wp_seq;apply wp_region;simp[wpOps,go_sem,Exit.then];refine .inl ?_;apply wp_seq;apply wp_seq;apply wp_region;simp[wpOps,go_sem,Exit.then];iterate 2 (refine .inl ?_)
  refine wp_cond (t:=false) ?_ ?_
  ·simp[Act.eval,he]
  simp only[Bool.false_eq_true,if_false];refine wp_skip ?_;simp only[Exit.then];apply wp_seq;apply wp_region;simp[wpOps,go_sem,Exit.then];iterate 2 (refine .inl ?_)
  refine wp_ret ?_;simp[bodyPost,results,go_sem]
end Go.Cx
