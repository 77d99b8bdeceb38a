/-
What must, and what catches its panic, do: walked by hand.
-/
import Derived.Test.YthbhbkjkclhkgaaGreatDoorDK
import Derived.Tactics
import Derived.Tactics2
import Derived.TacticsInMore
import Derived.RecoverIn
import Derived.DefersIn
import Derived.WideLaws
import Derived.Test.YthbhbkjkclhkgaaGreatDoorA3
set_option maxRecDepth 100000
open Go Go.Cf
namespace Go.Cx
theorem QjV:Pr.underlying 20=some (.interface (Pr.methodsAt 20)):=Kr
theorem Qb5:QRZ Pr QC1 QJJ:=by
 have e:∀w,(binOp .neq 20 .nilIface .nilIface).run Pr w=.ok (.bool false) w:=fun w=>run_neq_nil_nil w 20 QjV;have g:∀w,(binOp .neq 20 (.iface 323 (.agg #[])) .nilIface).run Pr w=.ok (.bool true) w:=fun w=>run_neq_held_nil w 20 323 (.agg #[]) QjV
 have has:∀w,(Instr.typeAssert (.iface 323 (.agg #[])) 20 323 true).run Pr w=.ok (.tuple #[.agg #[],.bool true]) w:=fun w=>by
  simp[Instr.typeAssert,go_sem]
 refine⟨Kr,fun b w=>?_,fun b w h1 c=>?_⟩
 ·refine callsDIn_of_wpSIn (f:=126) (fn:=Go.Proofs.Tryz.f126) rfl rfl trivial fun d cs a=>?_;apply wpSIn_seq;apply wpSIn_region;simp[wpOpsSIn,go_sem,recoverD,a,Exit.thenS];apply wpSIn_seq;apply wpSIn_region;simp[wpOpsSIn,go_sem,e,Exit.thenS];refine wpSIn_cond (t:=false) (by simp[Act.eval,Array.replicate]) ?_;simp only[Wi,Oa];refine wpSIn_of_wpIn rfl (wpIn_skip ?_);cases d;simp_all [bodyPostS,results]
 ·refine callsDIn_of_wpSIn (f:=126) (fn:=Go.Proofs.Tryz.f126) rfl rfl trivial fun d cs a=>?_;unfold QC1 at a;apply wpSIn_seq;apply wpSIn_region;simp[wpOpsSIn,go_sem,recoverD,a,Exit.thenS];apply wpSIn_seq;apply wpSIn_region;simp[wpOpsSIn,go_sem,g,Exit.thenS];refine wpSIn_cond (t:=true) (by simp[Act.eval,Array.replicate]) ?_;simp only[O7];apply wpSIn_seq;apply wpSIn_seq;apply wpSIn_region;simp[wpOpsSIn,go_sem,has,Exit.thenS];apply wpSIn_seq;apply wpSIn_region;simp[wpOpsSIn,go_sem,Exit.thenS];refine wpSIn_cond (t:=false) (by simp[Act.eval,Array.replicate]) ?_;simp only[Wi,Oa];refine wpSIn_of_wpIn rfl (wpIn_skip ?_);simp only[Exit.thenS];apply wpSIn_region;obtain⟨v,hv⟩:=h1;have hv:(w.alloc (.cells #[] 323)).cell? b=some v:=hv;have c:(w.alloc (.cells #[] 323)).frozen? b=false:=c;simp[wpOpsSIn,go_sem,hv,c,bodyPostS,results,settle];rfl
theorem Qae(e:Int):CtP QC1 Pr 129 [.I e] .one [.I] [] emp (fun t Bs=>e≠10/\t.1=e/\Bs=[]) (fun Bs=>e=10/\Bs=[]):=by
 intro w h b c f;show Calls Pr 129 #[.I e] w _;have h0:Sx ⟨w,h⟩ [] w:=Sx.start b c;by_cases he:e=10
 ·refine Calls.mono (R:=fun a w'=>a=.panicked QC1/\w'=w) ?_ fun a w' h=>.inr ⟨[],h.1,⟨he,rfl⟩,h.2 ▸ h0⟩;subst he;refine calls_of_wp (fn:=Go.Proofs.Tryz.f129) rfl rfl ?_;apply wp_seq;apply wp_region;simp[wpOps,go_sem,Exit.then];refine .inl ?_;apply wp_seq;apply wp_seq;apply wp_region;simp[wpOps,go_sem,Exit.then];iterate 2 (refine .inl ?_)
  refine wp_cond (t:=true) ?_ ?_
  ·simp[Act.eval]
  simp only[O7];apply wp_region
  have hb:∀w,(Instr.build 323 #[]).run Pr w=.ok (.agg #[]) w:=fun w=>by kernel_rfl
  have hi:∀w,(Instr.makeInterface 323 (.agg #[])).run Pr w=.ok (.iface 323 (.agg #[])) w:=fun w=>by rfl
  have d:∀w,(Instr.panic (.iface 323 (.agg #[]))).run Pr w=.halt (.panic (.iface 323 (.agg #[]))) w:=fun w=>rfl;simp[wpOps,go_sem,Exit.then,bodyPost,hb,hi,d];iterate 3 (refine .inl ?_)
  rfl
 ·refine Calls.mono (R:=fun a w'=>a=.returned (.I e)/\w'=w) ?_ fun a w' h=>.inl ⟨(e,()),[],h.1,⟨he,rfl,rfl⟩,h.2 ▸ h0⟩;refine calls_of_wp (fn:=Go.Proofs.Tryz.f129) rfl rfl ?_;apply wp_seq;apply wp_region;simp[wpOps,go_sem,Exit.then];refine .inl ?_;apply wp_seq;apply wp_seq;apply wp_region;simp[wpOps,go_sem,Exit.then];iterate 2 (refine .inl ?_)
  refine wp_cond (t:=false) ?_ ?_
  ·simp[Act.eval,he]
  simp only[Wi,Oa];refine wp_skip ?_;simp only[Exit.then];apply wp_seq;apply wp_region;simp[wpOps,go_sem,Exit.then];iterate 2 (refine .inl ?_)
  refine wp_ret ?_;simp[bodyPost,results,go_sem]
end Go.Cx
