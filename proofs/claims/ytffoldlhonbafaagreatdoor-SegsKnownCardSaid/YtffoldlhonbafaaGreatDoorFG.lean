/-
  What law14's knownFiles does, as a formula; the region whose order Go leaves open, as a game, operation by operation.
-/
import Derived.Test.YtffoldlhonbafaaGreatDoorDK
import Derived.Test.YtffoldlhonbafaaGreatDoorA3
namespace Go.Cx
open Go Go.Cf
set_option maxRecDepth 100000
set_option linter.unusedVariables false
noncomputable abbrev kfFn:Func:=Go.Proofs.Tryz.f6
noncomputable def law14_knownFiles (R:Bool→WP):WP:=XNew [.string ((⟨#[108,111,103,45,49]⟩:ByteArray)),.string ((⟨#[108,111,103,45,50]⟩:ByteArray)),.string ((⟨#[108,111,103,45,51]⟩:ByteArray)),.string ((⟨#[108,111,103,45,48,49]⟩:ByteArray)),.string ((⟨#[108,111,103,45]⟩:ByteArray)),.string ((⟨#[108,111,103,45,120]⟩:ByteArray)),.string ((⟨#[108,111,103,45,57,57,57,57,57,57,57,57,57,57,57,57]⟩:ByteArray)),.string ((⟨#[108,111,103,45,48]⟩:ByteArray)),.string ((⟨#[104,101,97,100,46,110,101,119]⟩:ByteArray)),.string ((⟨#[111,116,104,101,114]⟩:ByteArray)),.string ((⟨#[108,111,103,45,52]⟩:ByteArray))] T_string fun b=>XLoop [.int .i64] (fun(K':Int→WP) (i:Int)=>XIf (decide (i<((11:Int)))) (XLoop [.int .i64] (fun(K'1:Int→WP) (n:Int)=>XIf (decide (n<20)) (XDraw<|XJoin [.slice] (fun(K'2:Sl→WP)=>wpGo Pr 51 (goOps kfFn) 33 [] [(13,.bool (decide (n<20))),(12,.int .i64 n),(3,.int .i64 n),(9,.bool (decide (i<((11:Int))))),(8,.int .i64 ((11:Int))),(7,.slice ((some ⟨b,0,none⟩)) 11 11),(6,.int .i64 i),(2,.int .i64 i),(1,.slice ((some ⟨b,0,none⟩)) 11 11),(5,.slice ((some ⟨b,0,none⟩)) 11 11)] fun ρ'=>bif allHas ρ' [4] then Cur.appV [.slice] K'2 ([4].map (gv ρ')) else bad)<|fun l=>XCall Pr F_law14_SegsRuns [.int .i64 65536,l.v] .one [.bool]<|fun(c:Bool)=>XIf (!c) (R false) (K'1 (IntKind.i64.wrap (n+3)))) (K' (IntKind.i64.wrap (i+1)))) 0) (R true)) 0
theorem c_law14_knownFiles {R:Bool→WP}{wd:World}(h:law14_knownFiles R wd):XCall Pr F_law14_knownFiles [] .one [.bool] R wd:=
  xcall_go (fun ops=>Nat.beq ops.length 33) nogor mixed (f:=F_law14_knownFiles) (fn:=kfFn) (dp:=[0]) rfl (by kernel_rfl) (by
    have e:wpF Pr [0] (wpDrG (fun ops=>Nat.beq ops.length 33) Pr kfFn) kfFn [] [.bool] R=law14_knownFiles R:=by kernel_rfl
    rw [e];exact h)
theorem kf_len:(goOps kfFn).length=33:=by kernel_rfl
theorem kf_chk:goChk 51 [1,2,3] (goOps kfFn)=true:=by kernel_rfl
theorem kf_back:backB 0 (goOps kfFn)=true:=by kernel_rfl
theorem kf_slots:(goOps kfFn).map slotsO=[[],[16],[],[18],[],[20],[],[1],[2],[23,24],[25],[3],[27],[26,28],[],[30],[1],[2],[32,33],[34],[3],[35,36],[],[38],[1],[2],[40,41],[42],[43],[],[45],[17,19,21,22,29,31,37,39,44,46],[47]]:=by kernel_rfl
theorem kf_dsts:(goOps kfFn).map dstN=[16,17,18,19,20,21,22,23,24,25,26,27,28,29,30,31,32,33,34,35,36,37,38,39,40,41,42,43,44,45,46,47,4]:=by kernel_rfl
def kfDeps:List (Nat×List Nat):=[(1,[0]),(3,[2]),(5,[4]),(9,[7,8]),(10,[9]),(12,[11]),(13,[10,12]),(15,[14]),(18,[16,17]),(19,[18]),(21,[19,20]),(23,[22]),(26,[24,25]),(27,[26]),(28,[27]),(30,[29]),(31,[1,3,5,6,13,15,21,23,28,30]),(32,[31])]
theorem kf_deps:kfDeps.all (fun p=>match (goOps kfFn)[p.1]? with | some o=>p.2.all fun m=>memN m (dirDeps o) | none=>false)=true:=by kernel_rfl
theorem kf0 {K:Value→WP}:kOp Pr kfFn 0 [] K=XCall Pr F_kit_Row [.int .i64 1018] .one [.slice] fun s=>K s.v:=by kernel_rfl
theorem kf1 {s:Sl}{K:Value→WP}:kOp Pr kfFn 1 [s.v] K=K (.agg #[.int .i64 0,.int .i64 0,.int .i64 0,.string ByteArray.empty,s.v]):=by kernel_rfl
theorem kf2 {K:Value→WP}:kOp Pr kfFn 2 [] K=XCall Pr F_kit_Row [.int .i64 1018] .one [.slice] fun s=>K s.v:=by kernel_rfl
theorem kf3 {s:Sl}{K:Value→WP}:kOp Pr kfFn 3 [s.v] K=K (.agg #[.int .i64 0,.int .i64 0,.int .i64 0,.string ByteArray.empty,s.v]):=by kernel_rfl
theorem kf4 {K:Value→WP}:kOp Pr kfFn 4 [] K=XNew [.int .u8 5,.int .u8 6] T_uint8 fun b=>K (.slice (some ⟨b,0,none⟩) 2 2):=by kernel_rfl
theorem kf5 {s:Sl}{K:Value→WP}:kOp Pr kfFn 5 [s.v] K=K (.agg #[.int .i64 0,.int .i64 0,.int .i64 0,.string ByteArray.empty,s.v]):=by kernel_rfl
theorem kf6 {K:Value→WP}:kOp Pr kfFn 6 [] K=K (.agg #[.int .i64 1,.int .i64 0,.int .i64 0,.string ByteArray.empty,.slice none 0 0]):=by kernel_rfl
theorem kf7 {s:Sl}{K:Value→WP}:kOp Pr kfFn 7 [s.v] K=K s.v:=by kernel_rfl
theorem kf8 {n:Int}{K:Value→WP}:kOp Pr kfFn 8 [.int .i64 n] K=K (.int .i64 n):=by kernel_rfl
theorem kf9 {s:Sl}{n:Int}{K:Value→WP}:kOp Pr kfFn 9 [s.v,.int .i64 n] K=XIdx s.p s.n n 1 fun a=>K (.pointer (some a)):=by kernel_rfl
theorem kf10 {a:Addr}{K:Value→WP}:kOp Pr kfFn 10 [.pointer (some a)] K=XGet .str a fun(t:ByteArray)=>K (.string t):=by kernel_rfl
theorem kf11 {n:Int}{K:Value→WP}:kOp Pr kfFn 11 [.int .i64 n] K=K (.int .i64 n):=by kernel_rfl
theorem kf12 {n:Int}{K:Value→WP}:kOp Pr kfFn 12 [.int .i64 n] K=XCall Pr F_kit_Row [.int .i64 n] .one [.slice] fun s=>K s.v:=by kernel_rfl
theorem kf13 {t:ByteArray}{s:Sl}{K:Value→WP}:kOp Pr kfFn 13 [.string t,s.v] K=K (.agg #[.int .i64 6,.int .i64 0,.int .i64 0,.string t,s.v]):=by kernel_rfl
theorem kf14 {K:Value→WP}:kOp Pr kfFn 14 [] K=XNew [.int .u8 7] T_uint8 fun b=>K (.slice (some ⟨b,0,none⟩) 1 1):=by kernel_rfl
theorem kf15 {s:Sl}{K:Value→WP}:kOp Pr kfFn 15 [s.v] K=K (.agg #[.int .i64 0,.int .i64 0,.int .i64 0,.string ByteArray.empty,s.v]):=by kernel_rfl
theorem kf16 {s:Sl}{K:Value→WP}:kOp Pr kfFn 16 [s.v] K=K s.v:=by kernel_rfl
theorem kf17 {n:Int}{K:Value→WP}:kOp Pr kfFn 17 [.int .i64 n] K=K (.int .i64 n):=by kernel_rfl
theorem kf18 {s:Sl}{n:Int}{K:Value→WP}:kOp Pr kfFn 18 [s.v,.int .i64 n] K=XIdx s.p s.n n 1 fun a=>K (.pointer (some a)):=by kernel_rfl
theorem kf19 {a:Addr}{K:Value→WP}:kOp Pr kfFn 19 [.pointer (some a)] K=XGet .str a fun(t:ByteArray)=>K (.string t):=by kernel_rfl
theorem kf20 {n:Int}{K:Value→WP}:kOp Pr kfFn 20 [.int .i64 n] K=K (.int .i64 n):=by kernel_rfl
theorem kf21 {t:ByteArray}{n:Int}{K:Value→WP}:kOp Pr kfFn 21 [.string t,.int .i64 n] K=K (.agg #[.int .i64 8,.int .i64 n,.int .i64 0,.string t,.slice none 0 0]):=by kernel_rfl
theorem kf22 {K:Value→WP}:kOp Pr kfFn 22 [] K=XNew [.int .u8 8] T_uint8 fun b=>K (.slice (some ⟨b,0,none⟩) 1 1):=by kernel_rfl
theorem kf23 {s:Sl}{K:Value→WP}:kOp Pr kfFn 23 [s.v] K=K (.agg #[.int .i64 0,.int .i64 0,.int .i64 0,.string ByteArray.empty,s.v]):=by kernel_rfl
theorem kf24 {s:Sl}{K:Value→WP}:kOp Pr kfFn 24 [s.v] K=K s.v:=by kernel_rfl
theorem kf25 {n:Int}{K:Value→WP}:kOp Pr kfFn 25 [.int .i64 n] K=K (.int .i64 n):=by kernel_rfl
theorem kf26 {s:Sl}{n:Int}{K:Value→WP}:kOp Pr kfFn 26 [s.v,.int .i64 n] K=XIdx s.p s.n n 1 fun a=>K (.pointer (some a)):=by kernel_rfl
theorem kf27 {a:Addr}{K:Value→WP}:kOp Pr kfFn 27 [.pointer (some a)] K=XGet .str a fun(t:ByteArray)=>K (.string t):=by kernel_rfl
theorem kf28 {t:ByteArray}{K:Value→WP}:kOp Pr kfFn 28 [.string t] K=K (.agg #[.int .i64 7,.int .i64 0,.int .i64 0,.string t,.slice none 0 0]):=by kernel_rfl
theorem kf29 {K:Value→WP}:kOp Pr kfFn 29 [] K=XNew [.int .u8 9] T_uint8 fun b=>K (.slice (some ⟨b,0,none⟩) 1 1):=by kernel_rfl
theorem kf30 {s:Sl}{K:Value→WP}:kOp Pr kfFn 30 [s.v] K=K (.agg #[.int .i64 0,.int .i64 0,.int .i64 0,.string ByteArray.empty,s.v]):=by kernel_rfl
theorem kf31 {s1 s2 s3 s4 s5 s6 s7:Sl}{t1 t2 t3:ByteArray}{n:Int}{K:Value→WP}:kOp Pr kfFn 31 [.agg #[.int .i64 0,.int .i64 0,.int .i64 0,.string ByteArray.empty,s1.v],.agg #[.int .i64 0,.int .i64 0,.int .i64 0,.string ByteArray.empty,s2.v],.agg #[.int .i64 0,.int .i64 0,.int .i64 0,.string ByteArray.empty,s3.v],.agg #[.int .i64 1,.int .i64 0,.int .i64 0,.string ByteArray.empty,.slice none 0 0],.agg #[.int .i64 6,.int .i64 0,.int .i64 0,.string t1,s4.v],.agg #[.int .i64 0,.int .i64 0,.int .i64 0,.string ByteArray.empty,s5.v],.agg #[.int .i64 8,.int .i64 n,.int .i64 0,.string t2,.slice none 0 0],.agg #[.int .i64 0,.int .i64 0,.int .i64 0,.string ByteArray.empty,s6.v],.agg #[.int .i64 7,.int .i64 0,.int .i64 0,.string t3,.slice none 0 0],.agg #[.int .i64 0,.int .i64 0,.int .i64 0,.string ByteArray.empty,s7.v]] K=XNew [.int .i64 0,.int .i64 0,.int .i64 0,.string ByteArray.empty,s1.v,.int .i64 0,.int .i64 0,.int .i64 0,.string ByteArray.empty,s2.v,.int .i64 0,.int .i64 0,.int .i64 0,.string ByteArray.empty,s3.v,.int .i64 1,.int .i64 0,.int .i64 0,.string ByteArray.empty,.slice none 0 0,.int .i64 6,.int .i64 0,.int .i64 0,.string t1,s4.v,.int .i64 0,.int .i64 0,.int .i64 0,.string ByteArray.empty,s5.v,.int .i64 8,.int .i64 n,.int .i64 0,.string t2,.slice none 0 0,.int .i64 0,.int .i64 0,.int .i64 0,.string ByteArray.empty,s6.v,.int .i64 7,.int .i64 0,.int .i64 0,.string t3,.slice none 0 0,.int .i64 0,.int .i64 0,.int .i64 0,.string ByteArray.empty,s7.v] T_outstationlaw14_Op fun b=>K (.slice (some ⟨b,0,none⟩) 10 10):=by kernel_rfl
theorem kf32 {s:Sl}{K:Value→WP}:kOp Pr kfFn 32 [s.v] K=K s.v:=by kernel_rfl
end Go.Cx
