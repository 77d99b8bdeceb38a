/-
  All formulas.
  The kit's helpers.
  The device: files that are found, put in, taken out.
  The device: its calls.
  The device: its calls that change it.
  CRC-32, in both writings.
  CRC-32, the document's; frames.
  Frames: put and get, in both writings.
  Numbers of eight bytes, in both writings.
  Numbers read back; cursors that may be.
  Frames one behind the other: what a scan tells.
  Numbers of eight bytes: put and got.
-/
import Derived.Test.YtffoldlhonbafaaGreatDoorF1
import Derived.Test.YtffoldlhonbafaaGreatDoorA4
import Derived.Test.YtffoldlhonbafaaGreatDoorA3
import Derived.Laws.BitsAllLaws

namespace Go.Cx
open Go Go.Cf
set_option linter.unusedVariables false
theorem rds_and {B:Base}{F:List HP}{P Q:HP}(h1:Rds B F P) (h2:Rds B F Q):Rds B F (P.and Q):=fun w hp hF a b c d e=>⟨h1 w hp hF a b c d e,h2 w hp hF a b c d e⟩
theorem SClone_spec (l:Sl) (xs:List UInt8) (hm:xs.length≤140737488351232) :
    Ct Pr F_slices_Clone_L_byte_byte_ [l.v] .one [.slice] [] (RAr U8 l xs) (fun t Bs=>Bs=[Ar U8 t.1 xs]):=by
  refine spec1 c_slices_Clone_L_byte_byte_ fun B hr=>?_
  have fa:Fro B l U8 xs:=⟨hr⟩
  have ha:=hr.1
  unfold slices_Clone_L_byte_byte_
  refine xif (fun h=>?_) (fun h=>?_)
  · have:xs=[]:=by
      refine List.eq_nil_of_length_eq_zero ?_
      rw [ha]
      rcases Nat.eq_zero_or_pos l.n with h0 | h0
      · exact h0
      · obtain ⟨b,o,_,_,_,_,hp,_⟩:=hr.2.2 h0
        rw [hp] at h;simp [noneB] at h
    subst this
    exact xnone U8 (xret rfl)
  · refine xnew fun b=>?_
    refine xsee 0 (Bs:=[Ar U8 ⟨some ⟨b,0,none⟩,0,0⟩ []]) (fun g hg=>?_) (app1 ?_)
    · exact ⟨g,fun _=>none,⟨[],blk_ar [] 0 rfl rfl hg⟩,trivial,fun _=>.inr rfl,Sub.refl _,fun _ _ e=>by cases e⟩
    refine xapp (s:=⟨some ⟨b,0,none⟩,0,0⟩) (xs:=[]) (ys:=xs) (hb:=by simp;omega) (h:=fun s'=>?_)
    exact xret (by simp)
end Go.Cx
namespace Go.Cx
open Go Go.Cf
set_option linter.unusedVariables false
variable {B:Base}{As:List HP}
abbrev CF:=ByteArray×Sl×Int
def FILE:Enc CF:=⟨fun x=>[.string x.1,x.2.1.v,.int .i64 x.2.2],3,fun _=>rfl,fun x v h=>by simp at h;rcases h with rfl | rfl | rfl<;>rfl,by decide,(ByteArray.empty,⟨none,0,0⟩,0)⟩
theorem isNaN_spec (x:ByteArray):Ct Pr F_cmp_isNaN_string_ [.string x] .one [.bool] [] emp (fun t Bs=>t.1=false∧Bs=[]):=by
  refine spec1 c_cmp_isNaN_string_ fun B _=>?_
  unfold cmp_isNaN_string_
  exact xret ⟨by simp,rfl⟩
def cmpL (a b:Key):Int:=if lt a b then -1 else if a=b then 0 else 1
theorem Compare_spec (x y:ByteArray):Ct Pr F_cmp_Compare_string_ [.string x,.string y] .one [.int .i64] [] emp (fun t Bs=>t.1=cmpL x.toList y.toList∧Bs=[]):=by
  refine spec1 c_cmp_Compare_string_ fun B _=>?_
  unfold cmp_Compare_string_
  refine xcl (isNaN_spec x) rdb ?_
  rintro ⟨c,_⟩ _ ⟨hc,rfl⟩
  obtain rfl:c=false:=hc
  refine app0 (ca1 ?_)
  refine xcl (isNaN_spec y) rdb ?_
  rintro ⟨c,_⟩ _ ⟨hc,rfl⟩
  obtain rfl:c=false:=hc
  refine app0 (ca1 (xiff rfl (xiff rfl (xif (fun h=>?_) (fun h=>?_)))))
  · exact xret ⟨by simp [cmpL,lt,h],rfl⟩
  · refine xif (fun h2=>?_) (fun h2=>?_)
    · refine xret ⟨?_,rfl⟩
      have:¬ x.toList=y.toList:=fun e=>by rw [e] at h2;simp at h2
      simp [cmpL,lt,h,this]
    · refine xret ⟨?_,rfl⟩
      have:x.toList=y.toList:=by simpa [h] using h2
      show (0:Int)=_
      rw [cmpL,this,lt_irrefl];simp
theorem find1_spec (c:CF) (nm:ByteArray):Ct Pr F_device_Device_find_1 [.agg #[.string c.1,c.2.1.v,.int .i64 c.2.2],.string nm] .one [.int .i64] [] emp (fun t Bs=>t.1=cmpL c.1.toList nm.toList∧Bs=[]):=by
  refine spec1 c_device_Device_find_1 fun B _=>?_
  unfold device_Device_find_1
  refine xnew fun b=>xget (h:=?_)
  refine xcl (Compare_spec c.1 nm) rdb ?_
  rintro ⟨r,_⟩ _ ⟨hr,rfl⟩
  exact app0 (ca1 (xdrop 0 (xret ⟨hr,rfl⟩)))
theorem mid_eq (i j:Nat) (h:i+j≤1000000):IntKind.i64.wrap (Int.fdiv (IntKind.u64.wrap (IntKind.i64.wrap ((i:Int)+(j:Int)))) (2 ^ (min (Int.toNat 1) 64)))=(((i+j) / 2:Nat):Int):=by
  rw [wrap_id ((i:Int)+(j:Int)) (by omega) (by omega)]
  have e1:(2 ^ IntKind.u64.bits:Int)=18446744073709551616:=by decide
  have e3:IntKind.u64.signed=false:=rfl
  have e:IntKind.u64.wrap ((i:Int)+(j:Int))=(i:Int)+j:=by
    simp only [IntKind.wrap,e1,e3,Bool.false_and]
    simp;omega
  rw [e]
  have e4:(2:Int) ^ (min (Int.toNat 1) 64)=2:=by decide
  rw [e4,Int.fdiv_eq_ediv_of_nonneg _ (by omega),wrap_id _ (by omega) (by omega)]
  omega
def SameNames (cs:List CF) (fs:List DF):Prop:=cs.length=fs.length∧∀ (i:Nat) (c:CF) (f:DF),cs[i]? = some c→fs[i]? = some f→c.1=f.nm
theorem Search_spec (s:Sl) (cs:List CF) (fs:List DF) (nm:ByteArray) (hs:Sorted fs) (hn:SameNames cs fs) (hl:fs.length≤64):Ct Pr F_slices_BinarySearchFunc_L_device_file_device_file_string_ [s.v,.string nm,.func (.func F_device_Device_find_1) #[] #[]] (.tup [none,none]) [.int .i64,.bool] [Ar FILE s cs] emp
    (fun t Bs=>t.1=(findL fs nm.toList:Int)∧t.2.1=thereL fs nm.toList∧Bs=[Ar FILE s cs]):=by
  refine spec2 c_slices_BinarySearchFunc_L_device_file_device_file_string_ fun B _=>?_
  unfold slices_BinarySearchFunc_L_device_file_device_file_string_
  refine xlen s fun hn1 _=>?_
  obtain ⟨hcl,hnm⟩:=hn
  refine xloop2 (fun n i j As=>∃ a b:Nat,i=(a:Int)∧j=(b:Int)∧n=b - a∧a≤b∧b≤fs.length∧(∀ t f,t<a→fs[t]? = some f→lt f.key nm.toList=true)∧(∀ t f,b≤t→fs[t]? = some f→lt f.key nm.toList=false)∧As=[Ar FILE s cs]) fs.length ⟨0,fs.length,rfl,by rw [←hcl,hn1],by omega,by omega,by omega,fun t f h=>by omega,fun t f h hf=>?_,rfl⟩ ?_
  · have:=(List.getElem?_eq_some_iff.1 hf).1;omega
  rintro n _ _ _ K ⟨a,b,rfl,rfl,rfl,hab,hb,hlo,hhi,rfl⟩ hK
  refine xif_dec (fun h=>?_) (fun h=>?_)
  · rw [mid_eq a b (by omega)]
    have hm1:(a+b) / 2<fs.length:=by omega
    have hf:=List.getElem?_eq_getElem (l:=fs) hm1
    have hc:=List.getElem?_eq_getElem (l:=cs) (i:=(a+b) / 2) (by omega)
    have hnm':=hnm _ _ _ hc hf
    refine xasrt (by decide) ?_
    refine xidxn (h1:=by omega) (h:=fun _ _=>?_)
    refine xgetE hc (h:=?_)
    refine xgetEj hc (h:=?_)
    refine xgetEj hc (h:=?_)
    refine xcl (find1_spec cs[(a+b) / 2] nm) rdb ?_
    rintro ⟨r,_⟩ _ ⟨hr,rfl⟩
    simp only at hr
    rw [hnm'] at hr
    subst hr
    refine app0 (ca1 (xjoin (xif_dec (fun g=>?_) (fun g=>?_))))
    · have hlt:lt fs[(a+b) / 2].key nm.toList=true:=by
        unfold cmpL at g
        split at g
        · assumption
        · split at g<;>omega
      rw [wrap_succ _ (by omega)]
      refine hK (b - ((a+b) / 2+1)) _ _ _ (by omega) ⟨(a+b) / 2+1,b,rfl,rfl,rfl,by omega,hb,fun t f ht hft=>?_,hhi,rfl⟩
      rcases Nat.lt_or_ge t ((a+b) / 2) with h' | h'
      · exact lt_trans (hs.get h' hft hf) hlt
      · obtain rfl:t=(a+b) / 2:=by omega
        rw [hf] at hft;cases hft;exact hlt
    · have hge:lt fs[(a+b) / 2].key nm.toList=false:=by
        cases hh:lt fs[(a+b) / 2].key nm.toList with
        | false=>rfl
        | true=>exact absurd (show cmpL _ _<0 by simp only [DF.key] at hh;simp [cmpL,hh]) g
      refine hK ((a+b) / 2 - a) _ _ _ (by omega) ⟨a,(a+b) / 2,rfl,rfl,rfl,by omega,by omega,hlo,fun t f ht hft=>?_,rfl⟩
      rcases Nat.lt_or_ge ((a+b) / 2) t with h' | h'
      · cases hh:lt f.key nm.toList with
        | false=>rfl
        | true=>have:=lt_trans (hs.get h' hf hft) hh;rw [hge] at this;cases this
      · obtain rfl:t=(a+b) / 2:=by omega
        rw [hf] at hft;cases hft;exact hge
  · have hab':a=b:=by omega
    subst hab'
    have he:findL fs nm.toList=a:=findL_eq hb hlo (fun f hf=>hhi a f (Nat.le_refl _) hf)
    refine xjoin (xif_dec (fun g=>?_) (fun g=>?_))
    · have ha:a<fs.length:=by omega
      have hf:=List.getElem?_eq_getElem (l:=fs) ha
      have hc:=List.getElem?_eq_getElem (l:=cs) (i:=a) (by omega)
      have hnm':=hnm _ _ _ hc hf
      refine xidxn (h1:=by omega) (h:=fun _ _=>?_)
      refine xgetE hc (h:=?_)
      refine xgetEj hc (h:=?_)
      refine xgetEj hc (h:=?_)
      refine xcl (find1_spec cs[a] nm) rdb ?_
      rintro ⟨r,_⟩ _ ⟨hr,rfl⟩
      simp only at hr
      rw [hnm'] at hr
      refine app0 (ca1 (xret ⟨by rw [he],?_,rfl⟩))
      show (r == 0)=_
      have hge:=hhi a _ (Nat.le_refl _) hf
      unfold thereL
      rw [he,hf,hr]
      simp only [DF.key] at hge ⊢
      rw [Bool.eq_iff_iff]
      simp only [cmpL,hge,Bool.false_eq_true,if_false,beq_iff_eq]
      constructor
      · intro h;by_cases e:fs[a].nm.toList=nm.toList
        · exact e
        · rw [if_neg e] at h;cases h
      · intro h;rw [if_pos h]
    · refine xret ⟨by rw [he],?_,rfl⟩
      unfold thereL
      rw [he,List.getElem?_eq_none (by omega)]
theorem overl (args:Array Value) (w:World):(callFunc F_slices_overlaps_device_file_ args).run Pr w=((Extern.SlicesOverlaps.overlaps #[T_L_device_file,T_L_device_file] #[T_bool] args).run Pr w).andThen fun v w'=>.ok (.value v) w':=
  run_callFunc_extern (fn:=Go.Proofs.Tryz.f110) (by kernel_rfl) (by kernel_rfl) (by kernel_rfl) (by kernel_rfl) (by kernel_rfl) args w
theorem Delete_spec (s:Sl) (rs:List CF) (k:Nat) (hk:k<rs.length) (h63:rs.length≤9223372036854775807):Ct Pr F_slices_Delete_L_device_file_device_file_ [s.v,.int .i64 (k:Int),.int .i64 ((k+1:Nat):Int)] .one [.slice] [Ar FILE s rs] emp
    (fun t Bs=>Bs=[Ar FILE t.1 (rs.eraseIdx k)]):=by
  refine spec1 c_slices_Delete_L_device_file_device_file_ fun B _=>?_
  unfold slices_Delete_L_device_file_device_file_
  refine xlen s fun hl hc=>?_
  refine xslc (by omega) (by omega) (by omega) (by omega) ?_
  refine xiff (by simp;omega) (xdraw ?_)
  refine xslc (by omega) (by omega) (by omega) (by omega) ?_
  refine xslc (by omega) (by omega) (by omega) (by omega) ?_
  refine xars 0 fun zs _ hzl=>?_
  obtain ⟨p,n,c⟩:=s
  simp only at hl hc hzl
  refine xshift k (rs.take k) (rs.drop k++zs) (by rw [←List.append_assoc,List.take_append_drop]) (by simp;omega) ?_
  have e1:(⟨p,n,c⟩:Sl).cut (Int.toNat 0) (Int.toNat (k:Int)) (Int.toNat ((c:Nat):Int)) 3=⟨p,k,c⟩:=cut_zero ⟨p,n,c⟩ k 3
  rw [e1]
  show Ent B (Ars FILE ⟨p,k,c⟩ (rs.take k) (rs.drop k++zs)::[]) _
  refine xapp_in (ys:=rs.drop (k+1)) (fun g hg=>?_) (by simp;omega) (by omega) (h:=?_)
  · have h1:Ars FILE ⟨p,n,c⟩ rs zs g:=hg.shift (by rw [←List.append_assoc,List.take_append_drop]) hl
    have h2:=h1.read.cut (k+1) n c (by omega) hc (by omega)
    rw [List.take_of_length_le (by omega)] at h2
    exact h2
  have e2:k+((⟨p,n,c⟩:Sl).cut (Int.toNat ((k+1:Nat):Int)) (Int.toNat (n:Int)) (Int.toNat (c:Int)) 3).n=n - 1:=by
    show k+((n:Int).toNat - ((k+1:Nat):Int).toNat)=n - 1
    omega
  rw [e2]
  refine xslc (by simp) (by simp only;omega) (by simp only;omega) (by simp) ?_
  have hlen:(rs.take k++rs.drop (k+1)).length=n - 1:=by simp;omega
  have e3:Int.toNat (((n - 1:Nat)):Int)=(rs.take k++rs.drop (k+1)).length:=by rw [hlen];rfl
  show Ent B _ (XClear Pr T_L_device_file T___ (Sl.cut ⟨p,n - 1,c⟩ (Int.toNat ((n - 1:Nat):Int)) (Int.toNat (n:Int)) (Int.toNat (c:Int)) 3).v _)
  rw [e3]
  refine xclr (by rw [hlen];simp only [Int.toNat_natCast];omega) (by rw [hlen];simp only [Int.toNat_natCast];omega) (by rw [hlen];simp only [Int.toNat_natCast,List.length_drop,List.length_append];omega) (by simp only;omega) (h:=?_)
  refine xret ?_
  rw [List.eraseIdx_eq_take_drop_succ]
theorem Insert_spec (s:Sl) (xs:List CF) (k:Nat) (bv:Nat) (x:CF) (hk:k≤xs.length) (hl:xs.length≤1000):Ct Pr F_slices_Insert_L_device_file_device_file_ [s.v,.int .i64 (k:Int),.slice (some ⟨bv,0,none⟩) 1 1] .one [.slice] [Ar FILE s xs,BlkS bv [.string x.1,x.2.1.v,.int .i64 x.2.2]] emp
    (fun t Bs=>Bs=[Ar FILE t.1 (xs.take k++x::xs.drop k)]):=by
  refine spec1 (c_slices_Insert_L_device_file_device_file_ (v:=⟨some ⟨bv,0,none⟩,1,1⟩)) fun B _=>?_
  unfold slices_Insert_L_device_file_device_file_
  refine xlen s fun hn hc=>?_
  have hv:∀ {As F:List HP}{φ:WP} [p:Find (BlkS bv [.string x.1,x.2.1.v,.int .i64 x.2.2]) As F],Ent B (Ar FILE ⟨some ⟨bv,0,none⟩,1,1⟩ [x]::F) φ→Ent B As φ:=fun {As F φ p} h=>
    Ent.perm p.perm (xclose (fun _ hg=>star_imp (fun g hg=>⟨[],blk_ar [x] 1 rfl (by simp [flat,FILE]) hg.blk⟩) hg) h)
  refine xslc (by omega) (by omega) (by omega) (by omega) (xiff rfl (xif (fun h=>?_) (fun h=>?_)))
  · have hkn : k = xs.length := by have : (k : Int) = (s.n : Int) := by simpa using h
                                   omega
    subst hkn
    refine hv ?_
    refine xapp (y:=⟨some ⟨bv,0,none⟩,1,1⟩) (hb:=by simp;omega) (h:=fun s'=>?_)
    refine xdrop 0 (xret ?_)
    rw [List.take_length,List.drop_length]
  have hkn : k < xs.length := by have : ¬ (k : Int) = (s.n : Int) := by simpa using h
                                 omega
  have e1:IntKind.i64.wrap ((s.n:Int)+((1:Nat):Int))=((xs.length+1:Nat):Int):=by rw [wrap_id _ (by omega) (by omega)];omega
  have e2:IntKind.i64.wrap ((k:Int)+((1:Nat):Int))=((k+1:Nat):Int):=by rw [wrap_id _ (by omega) (by omega)];omega
  rw [e1]
  refine xif_dec (fun h=>?_) (fun h=>?_)
  · -- a new array
    refine xslc0 rfl (by omega) (by omega) ?_
    rw [Int.toNat_natCast]
    have e3:IntKind.i64.wrap (((xs.length+1:Nat):Int) - (k:Int))=((xs.length+1 - k:Nat):Int):=by rw [wrap_id _ (by omega) (by omega)];omega
    rw [e3]
    refine xappz (k0:=.i64) (E:=FILE) (s:=⟨s.p,k,s.c⟩) (xs:=xs.take k) (by kernel_rfl) (fun w hw=>?_) (by omega) (by simp only;omega) (by simp only;omega) (h:=fun s4 h4 h4c=>?_)
    · obtain ⟨g,hg,hs⟩:=hw.head
      have:=(hg.read.mono hs).cut 0 k s.c (Nat.zero_le _) (by omega) hk
      rw [cut_zero,List.drop_zero] at this
      exact this
    simp only at h4
    have h4':s4.n=xs.length+1:=by omega
    refine xslc (by omega) (by omega) (by omega) (by omega) ?_
    simp only [Int.toNat_natCast]
    refine xfront 2 (hv (xfront 1 (xars 0 fun zs hz1 hz2=>?_)))
    have hlt:(xs.take k).length=k:=by simp;omega
    have hlx:(xs.take k++List.replicate (xs.length+1 - k) FILE.zero).length=xs.length+1:=by simp;omega
    refine xcopy (y:=⟨some ⟨bv,0,none⟩,1,1⟩) (ys:=[x]) (fun w hw=>?_) (xs.take k++[x]++List.replicate (xs.length - k) FILE.zero) zs (hrm:=by omega) (hlk:=by simp;omega) (hl:=by simp;omega) (he:=?_) (h:=fun n=>?_)
    · obtain ⟨g,hg,hs⟩:=hw.tail.head
      exact hg.read.mono hs
    · have hm:min [x].length (s4.n - k)=1:=by simp;omega
      have e:List.replicate (xs.length+1 - k) FILE.zero=FILE.zero::List.replicate (xs.length - k) FILE.zero:=by
        rw [show xs.length+1 - k=(xs.length - k)+1 by omega];rfl
      have t1:(xs.take k++List.replicate (xs.length+1 - k) FILE.zero++zs).take k=xs.take k:=by rw [List.append_assoc,List.take_left' hlt]
      have t2:(xs.take k++List.replicate (xs.length+1 - k) FILE.zero++zs).drop (k+1)=List.replicate (xs.length - k) FILE.zero++zs:=by
        have:xs.take k++List.replicate (xs.length+1 - k) FILE.zero++zs=(xs.take k++[FILE.zero])++(List.replicate (xs.length - k) FILE.zero++zs):=by rw [e];simp
        rw [this,List.drop_left' (by rw [List.length_append,hlt];rfl)]
      rw [hm,t1,t2]
      simp
    refine xdraw ?_
    rw [e2]
    refine xslc (by omega) (by omega) (by omega) (by omega) ?_
    refine xslc (by omega) (by omega) (by omega) (by omega) ?_
    simp only [Int.toNat_natCast]
    have hld:(xs.drop k).length=xs.length - k:=by simp
    refine xcopy (y:=s.cut k s.n s.c 3) (ys:=xs.drop k) (fun w hw=>?_) (xs.take k++x::xs.drop k) zs (hrm:=by omega) (hlk:=by simp only [List.length_append,List.length_take,List.length_drop,List.length_cons,List.length_nil,List.length_replicate];omega) (hl:=by simp only [List.length_append,List.length_take,List.length_drop,List.length_cons,List.length_nil,List.length_replicate];omega) (he:=?_) (h:=fun n=>?_)
    · obtain ⟨g,hg,hs⟩:=hw.tail.tail.head
      have:=(hg.read.mono hs).cut k s.n s.c (by omega) hc (by omega)
      rw [←hn,List.take_length] at this
      rw [←hn]
      exact this
    · have hm:min (xs.drop k).length (s4.n - (k+1))=xs.length - k:=by rw [hld];omega
      have hl2:(xs.take k++[x]).length=k+1:=by rw [List.length_append,hlt];rfl
      have t1:(xs.take k++[x]++List.replicate (xs.length - k) FILE.zero++zs).take (k+1)=xs.take k++[x]:=by rw [List.append_assoc,List.take_left' hl2]
      have t2:(xs.take k++[x]++List.replicate (xs.length - k) FILE.zero++zs).drop (k+1+(xs.length - k))=zs:=by
        rw [List.drop_left' (by rw [List.length_append,hl2,List.length_replicate])]
      rw [hm,t1,t2,List.take_of_length_le (l:=xs.drop k) (by omega)]
      simp
    exact xar (xdrop 1 (xdrop 1 (xret rfl)))
  · -- in place
    have hroom:xs.length+1≤s.c:=by omega
    refine xars 0 fun zs hz1 hz2=>?_
    have hzl:zs≠[]:=fun e=>by subst e;simp at hz2;omega
    obtain ⟨z0,zd,rfl⟩:=List.exists_cons_of_ne_nil hzl
    refine xshift (xs.length+1) (xs++[z0]) zd (by simp) (by simp) ?_
    refine xslc0 rfl (by omega) (by omega) ?_
    simp only [Int.toNat_natCast]
    rw [e2]
    refine xslc (by omega) (by first | omega | (dsimp only;omega)) (by first | omega | (dsimp only;omega)) (by first | omega | (dsimp only;omega)) ?_
    simp only [Int.toNat_natCast]
    refine xovl (e:=T_device_file) overl (by kernel_rfl) (by kernel_rfl) (by simp) (by simp;omega) (by omega) (xift rfl (xdraw ?_))
    refine xslc (by omega) (by first | omega | (dsimp only;omega)) (by first | omega | (dsimp only;omega)) (by first | omega | (dsimp only;omega)) ?_
    refine xslc (by omega) (by first | omega | (dsimp only;omega)) (by first | omega | (dsimp only;omega)) (by first | omega | (dsimp only;omega)) ?_
    simp only [Int.toNat_natCast]
    have hU:(xs++[z0]).length=xs.length+1:=by simp
    have hUd:(xs++[z0]).drop k=xs.drop k++[z0]:=by rw [List.drop_append_of_le_length (by omega)]
    have hld:(xs.drop k).length=xs.length - k:=by simp
    have hUt:((xs++[z0]).take (k+1)).length=k+1:=by simp;omega
    refine xcopy (s:=⟨s.p,xs.length+1,s.c⟩) (y:=(⟨s.p,xs.length+1,s.c⟩:Sl).cut k (xs.length+1) s.c 3) (ys:=(xs++[z0]).drop k) (fun w hw=>?_) ((xs++[z0]).take (k+1)++xs.drop k) zd (hrm:=by omega) (hlk:=by simp;omega) (hl:=by simp;omega) (he:=?_) (h:=fun n=>?_)
    · obtain ⟨g,hg,hs⟩:=hw.head
      have:=(hg.read.mono hs).cut k (xs.length+1) s.c (by omega) hroom (by omega)
      rw [List.take_of_length_le (by omega)] at this
      exact this
    · have hm:min ((xs++[z0]).drop k).length (xs.length+1 - (k+1))=xs.length - k:=by rw [hUd,List.length_append,hld];simp only [List.length_singleton];omega
      have t1:(xs++[z0]++zd).take (k+1)=(xs++[z0]).take (k+1):=by rw [List.take_append_of_le_length (by rw [hU];omega)]
      have t2:(xs++[z0]++zd).drop (k+1+(xs.length - k))=zd:=by rw [List.drop_left' (by rw [hU];omega)]
      have t3:((xs++[z0]).drop k).take (xs.length - k)=xs.drop k:=by rw [hUd,List.take_left' hld]
      rw [hm,t1,t2,t3]
    refine xfront 1 (hv (xfront 1 ?_))
    refine xslc (by omega) (by first | omega | (dsimp only;omega)) (by first | omega | (dsimp only;omega)) (by first | omega | (dsimp only;omega)) ?_
    simp only [Int.toNat_natCast]
    refine xcopy (s:=⟨s.p,xs.length+1,s.c⟩) (y:=⟨some ⟨bv,0,none⟩,1,1⟩) (ys:=[x]) (fun w hw=>?_) (xs.take k++x::xs.drop k) zd (hrm:=by omega) (hlk:=by simp;omega) (hl:=by simp;omega) (he:=?_) (h:=fun n=>?_)
    · obtain ⟨g,hg,hs⟩:=hw.tail.head
      exact hg.read.mono hs
    · have hm:min [x].length (xs.length+1 - k)=1:=by simp;omega
      have t1:((xs++[z0]).take (k+1)++xs.drop k++zd).take k=xs.take k:=by
        rw [List.append_assoc,List.take_append_of_le_length (by rw [hUt];omega),List.take_take,Nat.min_eq_left (by omega),List.take_append_of_le_length (by omega)]
      have t2:((xs++[z0]).take (k+1)++xs.drop k++zd).drop (k+1)=xs.drop k++zd:=by rw [List.append_assoc,List.drop_left' hUt]
      rw [hm,t1,t2]
      simp
    exact xar (xdrop 1 (xret rfl))
end Go.Cx
namespace Go.Cx
open Go Go.Cf
set_option linter.unusedVariables false
variable {B:Base}{As:List HP}
def FileR (c:CF) (f:DF):HP:=fun h=>c.1=f.nm∧c.2.2=f.sy∧Ar U8 c.2.1 f.b h
abbrev devCells (m:DM) (s:Sl):List Value:=[.bool m.armed,.bool m.down,.int .i64 m.left,.int .i64 m.room,s.v]
def DevObj (p:Option Addr) (m:DM):HP:=fun h=>DInv m∧∃ b s cs,p=some ⟨b,0,none⟩∧star [Blk b (devCells m s),Ar FILE s cs,Each FileR cs m.fs] h
structure SF (cs:List CF) (fs:List DF):Prop where
  len:cs.length=fs.length
  each:∀ (i:Nat) (c:CF) (f:DF),cs[i]? = some c→fs[i]? = some f→c.1=f.nm∧c.2.2=f.sy∧c.2.1.n=f.b.length∧c.2.1.n≤c.2.1.c
theorem SF.names {cs:List CF}{fs:List DF}(h:SF cs fs):SameNames cs fs:=⟨h.len,fun i c f a b=>(h.each i c f a b).1⟩
theorem sf_of {cs:List CF}{fs:List DF}{g:Frag}(h:Each FileR cs fs g):SF cs fs:=
  ⟨h.length,fun i c f a b=>each_read (R:=FileR) (S:=fun c f _=>c.1=f.nm∧c.2.2=f.sy∧c.2.1.n=f.b.length∧c.2.1.n≤c.2.1.c) (fun _ _ _ _ h _=>h) (fun x y g ⟨h1,h2,zs,h3⟩=>⟨h1,h2,h3.1.symm,h3.cap⟩) h a b⟩
theorem xdev (i:Nat) {p:Option Addr}{m:DM}{F:List HP} [q:Pick i As (DevObj p m) F] {φ:WP}
    (k:DInv m→∀ b s cs,p=some ⟨b,0,none⟩→SF cs m.fs→s.n=cs.length→Ent B (Blk b (devCells m s)::Ar FILE s cs::Each FileR cs m.fs::F) φ):Ent B As φ:=by
  refine Ent.perm q.perm ?_
  intro w hw
  obtain ⟨g,⟨a,c,⟨hi,b,s,cs,hp,pa⟩,pc,d,sa,sc⟩,hm,hu⟩:=hw
  have hl:SF cs m.fs∧s.n=cs.length:=by
    obtain ⟨_,_,_,⟨_,_,⟨_,par⟩,⟨_,_,pe,_⟩,_⟩,_⟩:=pa
    exact ⟨sf_of pe,par.1.symm⟩
  exact k hi b s cs hp hl.1 hl.2 w ⟨g,(star_append [_,_,_] F).2 ⟨a,c,pa,pc,d,sa,sc⟩,hm,hu⟩
theorem xdev_back (b:Nat) (s:Sl) (cs:List CF) {m:DM}{G:List HP} [q:Split [Blk b (devCells m s),Ar FILE s cs,Each FileR cs m.fs] As G] {φ:WP}
    (hi:DInv m) (k:Ent B (DevObj (some ⟨b,0,none⟩) m::G) φ):Ent B As φ:=
  xfold [Blk b (devCells m s),Ar FILE s cs,Each FileR cs m.fs] (DevObj (some ⟨b,0,none⟩) m) (fun g hg=>⟨hi,b,s,cs,rfl,hg⟩) k
theorem xdev_put (i j l:Nat) {P1 P2 P3:HP}{F F' F'':List HP} [p:Pick i As P1 F] [q:Pick j F P2 F'] [r:Pick l F' P3 F''] {φ:WP}(b:Nat) (s:Sl) (cs:List CF) (m:DM) (hi:DInv m)
    (h:∀ g,star [P1,P2,P3] g→star [Blk b (devCells m s),Ar FILE s cs,Each FileR cs m.fs] g) (k:Ent B (DevObj (some ⟨b,0,none⟩) m::F'') φ):Ent B As φ:=
  xfold3 i j l (fun g hg=>⟨hi,b,s,cs,rfl,h g hg⟩) k
theorem find_raw (b:Nat) (s:Sl) (cs:List CF) (m:DM) (nm:ByteArray) (hs:Sorted m.fs) (sf:SF cs m.fs) (hl:m.fs.length≤64) :
    Ct Pr F_device_Device_find [.pointer (some ⟨b,0,none⟩),.string nm] (.tup [none,none]) [.int .i64,.bool] [Blk b (devCells m s),Ar FILE s cs] emp
    (fun t Bs=>t.1=(findL m.fs nm.toList:Int)∧t.2.1=thereL m.fs nm.toList∧Bs=[Blk b (devCells m s),Ar FILE s cs]):=by
  refine spec2 c_device_Device_find fun B _=>?_
  unfold device_Device_find
  refine xnil (xget (h:=?_))
  refine xcl (Search_spec s cs m.fs nm hs sf.names hl) rdb ?_
  rintro ⟨r,c,_⟩ _ ⟨h1,h2,rfl⟩
  exact app1 (ca2 (xfront 1 (xret ⟨h1,h2,rfl⟩)))
theorem named_spec (nm:ByteArray):Ct Pr F_device_named [.string nm] .one [.bool] [] emp (fun t Bs=>t.1=namedB nm∧Bs=[]):=by
  refine spec1 c_device_named fun B _=>?_
  unfold device_named
  exact xret ⟨rfl,rfl⟩
theorem spend_raw (b:Nat) (s:Sl) (m:DM) (hl:i64 m.left) (ha:m.armed=true→0≤m.left) :
    Ct Pr F_device_power_spend [.pointer (some ⟨b,0,none⟩)] .one [.bool] [Blk b (devCells m s)] emp (fun t Bs=>t.1=(spendM m).2∧Bs=[Blk b (devCells (spendM m).1 s)]):=by
  refine spec1 c_device_power_spend fun B _=>?_
  unfold device_power_spend
  refine xnil (xget (h:=?_))
  refine xjoin1 (fun x As'=>x=(m.armed&&m.left == 0)∧As'=[Blk b (devCells m s)]) ?_ ?_
  · intro J hJ
    refine xif (fun h=>xnil (xget (h:=hJ _ _ ⟨?_,rfl⟩))) (fun h=>hJ _ _ ⟨?_,rfl⟩)
    · have h':m.armed=true:=h
      simp [h']
    · have h':m.armed=false:=h
      simp [h']
  · rintro _ _ ⟨rfl,rfl⟩
    refine xif (fun h=>?_) (fun h=>?_)
    · refine xnil (xset (h:=xret ⟨?_,?_⟩))
      · simp [spendM,h]
      · simp [spendM,h,devCells]
    · refine xnil (xget (h:=xjoin (xif (fun g=>?_) (fun g=>?_))))
      · have g':m.armed=true:=g
        have h0:=ha g'
        have hne:¬ m.left=0:=fun e=>by simp [g',e] at h
        refine xnil (xget (h:=xnil (xset (h:=?_))))
        have e1:IntKind.i64.wrap (m.left - 1)=m.left - 1:=by unfold i64 at hl;exact wrap_id _ (by omega) (by omega)
        have hsp:spendM m=({ m with left:=m.left - 1 },true):=by
          unfold spendM
          rw [h,if_neg (by simp),if_pos g']
        rw [hsp,e1]
        exact xret ⟨rfl,rfl⟩
      · have g':m.armed=false:=g
        refine xret ⟨?_,?_⟩<;>simp [spendM,g']
theorem New_spec (room:Int):Ct Pr F_device_New [.int .i64 room] (.tup [none,none]) [.ptr,.int .i64] [] emp
    (fun t Bs=>(((room<0∨room>16777216)∧t.1=none∧t.2.1=3∧Bs=[])∨(0≤room∧room≤16777216∧t.2.1=0∧(∃ b,t.1=some ⟨b,0,none⟩)∧Bs=[DevObj t.1 ⟨false,false,0,room,[]⟩]))):=by
  refine spec2 c_device_New fun B _=>?_
  unfold device_New
  refine xif (fun h=>?_) (fun h=>?_)
  · refine xret (.inl ⟨?_,rfl,rfl,rfl⟩)
    simpa using h
  · have h':0≤room∧room≤16777216:=by simp at h;omega
    refine xnew fun b=>xnone FILE (xadd (A:=Each FileR [] []) trivial ?_)
    refine xdev_put 2 1 0 b ⟨none,0,0⟩ [] ⟨false,false,0,room,[]⟩ ⟨List.Pairwise.nil,by simp,by simp,by simp [usedN];omega,h',by simp,⟨by simp,by simp⟩,fun h=>by cases h⟩ (fun _ h=>h) ?_
    exact xret (.inr ⟨h'.1,h'.2,rfl,⟨b,rfl⟩,rfl⟩)
theorem usedN_take (fs:List DF) (k:Nat) (h:k<fs.length):usedN (fs.take (k+1))=usedN (fs.take k)+fs[k].b.length:=by
  unfold usedN
  rw [List.take_add_one,List.getElem?_eq_getElem h,List.map_append,List.sum_append]
  simp
theorem usedN_take_le (fs:List DF) (k:Nat):usedN (fs.take k)≤usedN fs:=by
  conv=>rhs;rw [←List.take_append_drop k fs]
  unfold usedN
  rw [List.map_append,List.sum_append];omega
theorem Used_raw (b:Nat) (s:Sl) (cs:List CF) (m:DM) (hi:DInv m) (sf:SF cs m.fs) :
    Ct Pr F_device_Device_Used [.pointer (some ⟨b,0,none⟩)] .one [.int .i64] [Blk b (devCells m s),Ar FILE s cs] emp (fun t Bs=>t.1=(usedN m.fs:Int)∧Bs=[Blk b (devCells m s),Ar FILE s cs]):=by
  refine spec1 c_device_Device_Used fun B _=>?_
  unfold device_Device_Used
  have hu:=hi.used
  have hroom:=hi.room
  have hlen:=hi.len
  refine xlen s fun hn _=>xnil (xget (h:=?_))
  refine xloop2 (fun n u i As=>∃ k:Nat,i=(k:Int)∧u=(usedN (m.fs.take k):Int)∧n=m.fs.length - k∧k≤m.fs.length∧As=[Blk b (devCells m s),Ar FILE s cs]) m.fs.length ⟨0,rfl,rfl,rfl,by omega,rfl⟩ ?_
  rintro n _ _ _ K ⟨k,rfl,rfl,rfl,hk,rfl⟩ hK
  have hcl:=sf.len
  refine xif_dec (fun h=>?_) (fun h=>?_)
  · have hf:=List.getElem?_eq_getElem (l:=m.fs) (i:=k) (by omega)
    have hc:=List.getElem?_eq_getElem (l:=cs) (i:=k) (by omega)
    obtain ⟨_,_,h3,_⟩:=sf.each _ _ _ hc hf
    have e:=usedN_take m.fs k (by omega)
    have hle:=usedN_take_le m.fs (k+1)
    refine xidxn (h1:=by omega) (h:=fun _ _=>?_)
    refine xgetE hc (h:=?_)
    refine xgetEj hc (h:=?_)
    refine xgetEj hc (h:=xnew fun b1=>xset (h:=xset (h:=xset (h:=xget (h:=?_)))))
    rw [wrap_succ k (by omega),h3,wrap_id _ (by omega) (by omega)]
    refine xdrop 0 (hK (m.fs.length - (k+1)) _ _ _ (by omega) ⟨k+1,rfl,?_,rfl,by omega,rfl⟩)
    rw [e];show (_:Int)=_;simp
  · have:k=m.fs.length:=by omega
    subst this
    refine xret ⟨?_,rfl⟩
    rw [List.take_length]
theorem Free_raw (b:Nat) (s:Sl) (cs:List CF) (m:DM) (hi:DInv m) (sf:SF cs m.fs) :
    Ct Pr F_device_Device_Free [.pointer (some ⟨b,0,none⟩)] .one [.int .i64] [Blk b (devCells m s),Ar FILE s cs] emp (fun t Bs=>t.1=m.room - (usedN m.fs:Int)∧Bs=[Blk b (devCells m s),Ar FILE s cs]):=by
  refine spec1 c_device_Device_Free fun B _=>?_
  unfold device_Device_Free
  have hu:=hi.used
  have hroom:=hi.room
  refine xdraw (xnil (xget (h:=?_)))
  refine xcl (Used_raw b s cs m hi sf) rdb ?_
  rintro ⟨r,_⟩ _ ⟨hr,rfl⟩
  simp only at hr
  subst hr
  refine app2 (ca1 (xchk (h:=?_)))
  rw [wrap_id _ (by omega) (by omega)]
  exact xret ⟨rfl,rfl⟩
theorem Used_spec (p:Option Addr) (m:DM):Ct Pr F_device_Device_Used [.pointer p] .one [.int .i64] [DevObj p m] emp (fun t Bs=>t.1=(usedN m.fs:Int)∧Bs=[DevObj p m]):=by
  refine spec1 (φ:=XCall Pr F_device_Device_Used [.pointer p] .one [.int .i64]) id fun B _=>?_
  refine xdev 0 fun hi b s cs hp sf hn=>?_
  subst hp
  refine xcl (Used_raw b s cs m hi sf) rdb ?_
  rintro ⟨r,_⟩ _ ⟨hr,rfl⟩
  exact app2 (ca1 (xdev_back b s cs hi (xret ⟨hr,rfl⟩)))
theorem Free_spec (p:Option Addr) (m:DM):Ct Pr F_device_Device_Free [.pointer p] .one [.int .i64] [DevObj p m] emp (fun t Bs=>t.1=m.room - (usedN m.fs:Int)∧Bs=[DevObj p m]):=by
  refine spec1 (φ:=XCall Pr F_device_Device_Free [.pointer p] .one [.int .i64]) id fun B _=>?_
  refine xdev 0 fun hi b s cs hp sf hn=>?_
  subst hp
  refine xcl (Free_raw b s cs m hi sf) rdb ?_
  rintro ⟨r,_⟩ _ ⟨hr,rfl⟩
  exact app2 (ca1 (xdev_back b s cs hi (xret ⟨hr,rfl⟩)))
theorem Down_spec (p:Option Addr) (m:DM):Ct Pr F_device_power_Down [.pointer p] .one [.bool] [DevObj p m] emp (fun t Bs=>t.1=m.down∧Bs=[DevObj p m]):=by
  refine spec1 c_device_power_Down fun B _=>?_
  unfold device_power_Down
  refine xdev 0 fun hi b s cs hp sf hn=>?_
  subst hp
  exact xnil (xget (h:=xdev_back b s cs hi (xret ⟨rfl,rfl⟩)))
theorem Read_spec (p:Option Addr) (m:DM) (nm:ByteArray):Ct Pr F_device_Device_Read [.pointer p,.string nm] (.tup [none,none]) [.slice,.int .i64] [DevObj p m] emp
    (fun t Bs=>t.2.1=(readM m nm).2∧Bs=[DevObj p m,Ar U8 t.1 (readM m nm).1]):=by
  refine spec2 c_device_Device_Read fun B _=>?_
  unfold device_Device_Read
  refine xdev 0 fun hi b s cs hp sf hsn=>?_
  subst hp
  refine xcl (find_raw b s cs m nm hi.sorted sf hi.len) rdb ?_
  rintro ⟨r,c,_⟩ _ ⟨h1,h2,rfl⟩
  simp only at h1 h2
  subst h1 h2
  refine app2 (ca2 (xif (fun h=>?_) (fun h=>?_)))
  · have h':thereL m.fs nm.toList=false:=by simpa using h
    refine xnone U8 (xdev_back b s cs hi (xret ?_))
    simp [readM,h']
  · have h':thereL m.fs nm.toList=true:=by simpa using h
    obtain ⟨hf,_⟩:=getD_there (d:=⟨nm,[],0⟩) h'
    have hlt:findL m.fs nm.toList<cs.length:=by rw [sf.len];exact (List.getElem?_eq_some_iff.1 hf).1
    have hc:=List.getElem?_eq_getElem hlt
    have hb:(m.fs.getD (findL m.fs nm.toList) ⟨nm,[],0⟩).b.length≤16777216:=by
      have h1:=usedN_erase hf
      have h2:=hi.used
      have h3:=hi.room
      omega
    refine xnil (xget (h:=?_))
    refine xidxn (h1:=hlt) (h:=fun _ _=>?_)
    refine xgetEj hc (h:=?_)
    refine xcl (SClone_spec _ (m.fs.getD (findL m.fs nm.toList) ⟨nm,[],0⟩).b (by omega)) (rds_pick 2 (fun g hg=>each_read (R:=FileR) (S:=fun c f=>RAr U8 c.2.1 f.b) (fun _ _ _ _ h s=>h.mono s) (fun _ _ _ h=>h.2.2.read) hg hc hf) (fun _ _ h s=>h.mono s)) ?_
    rintro ⟨r,_⟩ _ rfl
    refine app1 (ca1 (xdev_back b s cs hi (xret ?_)))
    simp [readM,h']
theorem Names_spec (p:Option Addr) (m:DM):Ct Pr F_device_Device_Names [.pointer p] .one [.slice] [DevObj p m] emp (fun t Bs=>Bs=[DevObj p m,Ar ST t.1 (m.fs.map (·.nm))]):=by
  refine spec1 c_device_Device_Names fun B _=>?_
  unfold device_Device_Names
  refine xdev 0 fun hi b s cs hp sf hsn=>?_
  subst hp
  have hlen:=hi.len
  have hcl:=sf.len
  refine xnil (xget (h:=xnone ST ?_))
  refine xloop2 (fun n o i As=>∃ k:Nat,i=(k:Int)∧n=m.fs.length - k∧k≤m.fs.length∧As=[Ar ST o ((m.fs.map fun f:DF=>f.nm).take k),Blk b (devCells m s),Ar FILE s cs,Each FileR cs m.fs]) m.fs.length ⟨0,rfl,rfl,by omega,rfl⟩ ?_
  rintro n o _ _ K ⟨k,rfl,rfl,hk,rfl⟩ hK
  refine xif_dec (fun h=>?_) (fun h=>?_)
  · have hf:=List.getElem?_eq_getElem (l:=m.fs) (i:=k) (by omega)
    have hc:=List.getElem?_eq_getElem (l:=cs) (i:=k) (by omega)
    obtain ⟨h1,_⟩:=sf.each _ _ _ hc hf
    refine xidxn (h1:=by omega) (h:=fun _ _=>?_)
    refine xgetE hc (h:=?_)
    refine xgetEj hc (h:=?_)
    refine xgetEj hc (h:=xnew fun b1=>xset (h:=xset (h:=xset (h:=xget (h:=xnew fun b2=>?_)))))
    refine xapp1 cs[k].1 (hb:=by simp;omega) (h:=fun s'=>?_)
    rw [wrap_succ k (by omega)]
    refine xdrop 0 (hK (m.fs.length - (k+1)) _ _ _ (by omega) ⟨k+1,rfl,rfl,by omega,?_⟩)
    rw [List.take_add_one,List.getElem?_map,hf,h1];rfl
  · have:k=m.fs.length:=by omega
    subst this
    rw [List.take_of_length_le (by simp)]
    exact xdev_back b s cs hi (xret rfl)
end Go.Cx
namespace Go.Cx
open Go Go.Cf
set_option linter.unusedVariables false
variable {B:Base}{As:List HP}
theorem onFile_down {m:DM}{nm:ByteArray}{g:Nat→DF→DM→DM×Int}(h:m.down=true):onFile m nm g=(m,10):=by simp [onFile,h]
theorem onFile_none {m:DM}{nm:ByteArray}{g:Nat→DF→DM→DM×Int}(h:m.down=false) (ht:thereL m.fs nm.toList=false):onFile m nm g=(m,6):=by simp [onFile,h,ht]
theorem onFile_ok {m:DM}{nm:ByteArray}{g:Nat→DF→DM→DM×Int}(h:m.down=false) (ht:thereL m.fs nm.toList=true):onFile m nm g=g (findL m.fs nm.toList) (m.fs.getD (findL m.fs nm.toList) ⟨nm,[],0⟩) m:=by
  unfold onFile
  rw [h,ht];rfl
theorem spent_no {m:DM}{g:DM→DM}(h:(spendM m).2=false):spent m g=((spendM m).1,10):=by simp [spent,h]
theorem spent_ok {m:DM}{g:DM→DM}(h:(spendM m).2=true):spent m g=(g (spendM m).1,0):=by simp [spent,h]
theorem file_set {cs:List CF}{fs:List DF}{k:Nat}{c c':CF}{f f':DF}(hc:cs[k]? = some c) (hf:fs[k]? = some f) (h:∀ g,FileR c f g→FileR c' f' g) (g:Frag) (hg:Each FileR cs fs g):Each FileR (cs.set k c') (fs.set k f') g:=
  each_put (List.getElem?_eq_some_iff.1 hc).1 (List.getElem?_eq_some_iff.1 hf).1 (star_imp (h) (each_pick hg hc hf))
theorem on_file {p:Option Addr}{m:DM}{nm:ByteArray}(hi:DInv m) {cs:List CF}(sf:SF cs m.fs) (ht:thereL m.fs nm.toList=true) :
    ∃ c f,cs[findL m.fs nm.toList]? = some c∧m.fs[findL m.fs nm.toList]? = some f∧m.fs.getD (findL m.fs nm.toList) ⟨nm,[],0⟩=f∧c.1=f.nm∧c.2.2=f.sy∧c.2.1.n=f.b.length∧c.2.1.n≤c.2.1.c∧f.b.length≤16777216∧0≤f.sy∧f.sy≤f.b.length:=by
  obtain ⟨hf,_⟩:=getD_there (d:=⟨nm,[],0⟩) ht
  have hlt:findL m.fs nm.toList<cs.length:=by rw [sf.len];exact (List.getElem?_eq_some_iff.1 hf).1
  have hc:=List.getElem?_eq_getElem hlt
  obtain ⟨h1,h2,h3,h4⟩:=sf.each _ _ _ hc hf
  have h5:=hi.syn _ (List.mem_of_getElem? hf)
  refine ⟨_,_,hc,hf,rfl,h1,h2,h3,h4,?_,h5.1,h5.2⟩
  have h1:=usedN_erase hf
  have h2:=hi.used
  have h3:=hi.room
  omega
theorem Sync_spec (p:Option Addr) (m:DM) (nm:ByteArray):Ct Pr F_device_Device_Sync [.pointer p,.string nm] .one [.int .i64] [DevObj p m] emp
    (fun t Bs=>t.1=(syncM m nm).2∧Bs=[DevObj p (syncM m nm).1]):=by
  refine spec1 c_device_Device_Sync fun B _=>?_
  unfold device_Device_Sync
  refine xdev 0 fun hi b s cs hp sf hsn=>?_
  subst hp
  have hinv:=sync_inv hi nm
  unfold syncM at hinv ⊢
  refine xcl (find_raw b s cs m nm hi.sorted sf hi.len) rdb ?_
  rintro ⟨r,c,_⟩ _ ⟨h1,h2,rfl⟩
  simp only at h1 h2
  subst h1 h2
  refine app2 (ca2 (xnil (xget (h:=xif (fun hd=>?_) (fun hd=>xif (fun ht=>?_) (fun ht=>?_))))))
  · rw [onFile_down hd]
    exact xdev_back b s cs hi (xret ⟨rfl,rfl⟩)
  · rw [onFile_none hd (by simpa using ht)]
    exact xdev_back b s cs hi (xret ⟨rfl,rfl⟩)
  have ht:thereL m.fs nm.toList=true:=by simpa using ht
  rw [onFile_ok hd ht] at hinv ⊢
  obtain ⟨c,f,hc,hf,hgd,e1,e2,e3,_,hfb,_⟩:=on_file (p:=none) hi sf ht
  rw [hgd] at hinv ⊢
  obtain ⟨q1,q2⟩:=spendM_fs m
  refine xnil ?_
  refine xcl (spend_raw b s m hi.left.1 hi.left.2) rdb ?_
  rintro ⟨r,_⟩ _ ⟨hr,rfl⟩
  simp only at hr
  subst hr
  refine app1 (ca1 (xif (fun hsp=>?_) (fun hsp=>?_)))
  · rw [spent_no (by simpa using hsp)] at hinv ⊢
    exact xdev_put 0 0 0 b s cs (spendM m).1 hinv (fun _ h=>by rw [q1];exact h) (xret ⟨rfl,rfl⟩)
  rw [spent_ok (by simpa using hsp)] at hinv ⊢
  have hlt:=(List.getElem?_eq_some_iff.1 hc).1
  refine xdraw (xnil (xget (h:=xnil (xget (h:=?_)))))
  refine xidxn (h1:=hlt) (h:=fun _ _=>?_)
  refine xgetEj hc (h:=?_)
  refine xidxn (h1:=hlt) (h:=fun _ _=>?_)
  refine xsetEj (c.1,c.2.1,(f.b.length:Int)) hc (hj:=by decide) (hv:=by simp [FILE,e3]) (h:=?_)
  refine xfold1 2 (file_set (c':=(c.1,c.2.1,(f.b.length:Int))) (f':={ f with sy:=f.b.length }) hc hf (fun g h=>⟨h.1,rfl,h.2.2⟩)) ?_
  exact xdev_put 1 1 0 b s (cs.set (findL m.fs nm.toList) (c.1,c.2.1,(f.b.length:Int))) _ hinv (fun _ h=>by simp only [q1];exact h) (xret ⟨rfl,rfl⟩)
theorem ar_cut {s:Sl}{xs:List UInt8}{k:Nat}(hk:k≤xs.length) {g:Frag}(h:Ar U8 s xs g):Ar U8 ⟨s.p,k,s.c⟩ (xs.take k) g:=by
  obtain ⟨zs,h⟩:=h
  obtain ⟨p,n,c⟩:=s
  exact ⟨xs.drop k++zs,h.shift (by rw [←List.append_assoc,List.take_append_drop]) (by simp;omega)⟩
theorem Truncate_spec (p:Option Addr) (m:DM) (nm:ByteArray) (n:Int):Ct Pr F_device_Device_Truncate [.pointer p,.string nm,.int .i64 n] .one [.int .i64] [DevObj p m] emp
    (fun t Bs=>t.1=(truncM m nm n).2∧Bs=[DevObj p (truncM m nm n).1]):=by
  refine spec1 c_device_Device_Truncate fun B _=>?_
  unfold device_Device_Truncate
  refine xdev 0 fun hi b s cs hp sf hsn=>?_
  subst hp
  have hinv:=trunc_inv hi nm n
  unfold truncM at hinv ⊢
  refine xcl (find_raw b s cs m nm hi.sorted sf hi.len) rdb ?_
  rintro ⟨r,c,_⟩ _ ⟨h1,h2,rfl⟩
  simp only at h1 h2
  subst h1 h2
  refine app2 (ca2 (xnil (xget (h:=xif (fun hd=>?_) (fun hd=>xif (fun ht=>?_) (fun ht=>?_))))))
  · rw [onFile_down hd]
    exact xdev_back b s cs hi (xret ⟨rfl,rfl⟩)
  · rw [onFile_none hd (by simpa using ht)]
    exact xdev_back b s cs hi (xret ⟨rfl,rfl⟩)
  have ht:thereL m.fs nm.toList=true:=by simpa using ht
  rw [onFile_ok hd ht] at hinv ⊢
  obtain ⟨c,f,hc,hf,hgd,e1,e2,e3,e4,hfb,_,_⟩:=on_file (p:=none) hi sf ht
  rw [hgd] at hinv ⊢
  have hlt:=(List.getElem?_eq_some_iff.1 hc).1
  obtain ⟨q1,q2⟩:=spendM_fs m
  refine xjoin1 (fun x As'=>x=decide (n<0∨n>f.b.length)∧As'=[Blk b (devCells m s),Ar FILE s cs,Each FileR cs m.fs]) ?_ ?_
  · intro J hJ
    refine xif_dec (fun h=>hJ _ _ ⟨by simp [h],rfl⟩) (fun h=>?_)
    refine xnil (xget (h:=?_))
    refine xidxn (h1:=hlt) (h:=fun _ _=>?_)
    refine xgetEj hc (h:=hJ _ _ ⟨?_,rfl⟩)
    rw [e3];simp [h]
  rintro _ _ ⟨rfl,rfl⟩
  refine xif_dec (fun h=>?_) (fun h=>?_)
  · rw [if_pos h]
    exact xdev_back b s cs hi (xret ⟨rfl,rfl⟩)
  rw [if_neg h] at hinv ⊢
  refine xnil ?_
  refine xcl (spend_raw b s m hi.left.1 hi.left.2) rdb ?_
  rintro ⟨r,_⟩ _ ⟨hr,rfl⟩
  simp only at hr
  subst hr
  refine app1 (ca1 (xif (fun hsp=>?_) (fun hsp=>?_)))
  · rw [spent_no (by simpa using hsp)] at hinv ⊢
    exact xdev_put 0 0 0 b s cs (spendM m).1 hinv (fun _ h=>by rw [q1];exact h) (xret ⟨rfl,rfl⟩)
  rw [spent_ok (by simpa using hsp)] at hinv ⊢
  refine xnil (xget (h:=?_))
  refine xidxn (h1:=hlt) (h:=fun _ _=>xdraw (xnil ?_))
  refine xgetEj hc (h:=?_)
  refine xslc0 rfl (by omega) (by omega) (xnil ?_)
  refine xgetEj hc (h:=xnil ?_)
  refine xsetEj (c.1,⟨c.2.1.p,n.toNat,c.2.1.c⟩,c.2.2) hc (hj:=by decide) (hv:=by simp [FILE]) (h:=xnil ?_)
  have hc2:(cs.set (findL m.fs nm.toList) (c.1,⟨c.2.1.p,n.toNat,c.2.1.c⟩,c.2.2))[findL m.fs nm.toList]? = some (c.1,⟨c.2.1.p,n.toNat,c.2.1.c⟩,c.2.2):=List.getElem?_set_self hlt
  refine xsetEj (c.1,⟨c.2.1.p,n.toNat,c.2.1.c⟩,if n<f.sy then n else f.sy) hc2 (hj:=by decide) (hv:=by simp [FILE,e2]) (h:=?_)
  rw [List.set_set]
  refine xfold1 2 (file_set (c':=(c.1,⟨c.2.1.p,n.toNat,c.2.1.c⟩,if n<f.sy then n else f.sy)) (f':={ f with b:=f.b.take n.toNat,sy:=if n<f.sy then n else f.sy }) hc hf (fun g h=>⟨h.1,rfl,ar_cut (by omega) h.2.2⟩)) ?_
  exact xdev_put 1 1 0 b s (cs.set (findL m.fs nm.toList) (c.1,⟨c.2.1.p,n.toNat,c.2.1.c⟩,if n<f.sy then n else f.sy)) _ hinv (fun _ h=>by simp only [q1];exact h) (xret ⟨rfl,rfl⟩)
theorem Remove_spec (p:Option Addr) (m:DM) (nm:ByteArray):Ct Pr F_device_Device_Remove [.pointer p,.string nm] .one [.int .i64] [DevObj p m] emp
    (fun t Bs=>t.1=(removeM m nm).2∧Bs=[DevObj p (removeM m nm).1]):=by
  refine spec1 c_device_Device_Remove fun B _=>?_
  unfold device_Device_Remove
  refine xdev 0 fun hi b s cs hp sf hsn=>?_
  subst hp
  have hinv:=remove_inv hi nm
  unfold removeM at hinv ⊢
  refine xcl (find_raw b s cs m nm hi.sorted sf hi.len) rdb ?_
  rintro ⟨r,c,_⟩ _ ⟨h1,h2,rfl⟩
  simp only at h1 h2
  subst h1 h2
  refine app2 (ca2 (xnil (xget (h:=xif (fun hd=>?_) (fun hd=>xif (fun ht=>?_) (fun ht=>?_))))))
  · rw [onFile_down hd]
    exact xdev_back b s cs hi (xret ⟨rfl,rfl⟩)
  · rw [onFile_none hd (by simpa using ht)]
    exact xdev_back b s cs hi (xret ⟨rfl,rfl⟩)
  have ht:thereL m.fs nm.toList=true:=by simpa using ht
  rw [onFile_ok hd ht] at hinv ⊢
  obtain ⟨c,f,hc,hf,hgd,e1,e2,e3,e4,hfb,_,_⟩:=on_file (p:=none) hi sf ht
  have hlt:=(List.getElem?_eq_some_iff.1 hc).1
  have hlen:=hi.len
  have hcl:=sf.len
  obtain ⟨q1,q2⟩:=spendM_fs m
  refine xnil ?_
  refine xcl (spend_raw b s m hi.left.1 hi.left.2) rdb ?_
  rintro ⟨r,_⟩ _ ⟨hr,rfl⟩
  simp only at hr
  subst hr
  refine app1 (ca1 (xif (fun hsp=>?_) (fun hsp=>?_)))
  · rw [spent_no (by simpa using hsp)] at hinv ⊢
    exact xdev_put 0 0 0 b s cs (spendM m).1 hinv (fun _ h=>by rw [q1];exact h) (xret ⟨rfl,rfl⟩)
  rw [spent_ok (by simpa using hsp)] at hinv ⊢
  refine xnil (xget (h:=?_))
  rw [wrap_succ _ (by omega)]
  refine xcl (Delete_spec s cs (findL m.fs nm.toList) hlt (by omega)) rdb ?_
  rintro ⟨s',_⟩ _ rfl
  refine app1 (ca1 (xnil (xset (h:=?_))))
  refine xunf 2 [FileR c f,Each FileR (cs.eraseIdx (findL m.fs nm.toList)) (m.fs.eraseIdx (findL m.fs nm.toList))] (fun g hg=>each_pick hg hc hf) (app2 (xdrop 0 ?_))
  exact xdev_put 2 1 0 b s' (cs.eraseIdx (findL m.fs nm.toList)) _ hinv (fun _ h=>by simp only [q1];exact h) (xret ⟨rfl,rfl⟩)
theorem each_split {α β:Type}{R:α→β→HP}:∀ (k:Nat) {xs:List α}{ys:List β}{g:Frag},Each R xs ys g→star [Each R (xs.take k) (ys.take k),Each R (xs.drop k) (ys.drop k)] g:=by
  intro k
  induction k with
  | zero=>
    intro xs ys g h
    exact ⟨fun _=>none,g,(trivial:Each R [] [] _),star_in h,fun _=>.inl rfl,fun _ _ e=>(by cases e),Sub.refl _⟩
  | succ k ih=>
    intro xs ys g h
    cases xs with
    | nil=>
      cases ys with
      | cons=>exact h.elim
      | nil=>exact ⟨fun _=>none,g,(trivial:Each R [] [] _),star_in h,fun _=>.inl rfl,fun _ _ e=>(by cases e),Sub.refl _⟩
    | cons x xs=>
      cases ys with
      | nil=>exact h.elim
      | cons y ys=>
        have h1:star [R x y,Each R (xs.take k) (ys.take k),Each R (xs.drop k) (ys.drop k)] g:=star_cons (l:=[Each R xs ys]) (fun g hg=>by
          obtain ⟨a,b,pa,_,_,sa,_⟩:=hg
          exact star_mono _ (ih pa) sa) h
        exact star_fold1 (l:=[R x y,Each R (xs.take k) (ys.take k)]) (fun g hg=>hg) h1
theorem each_ins {α β:Type}{R:α→β→HP}{x:α}{y:β}(k:Nat) {xs:List α}{ys:List β}{g:Frag}(h:star [R x y,Each R xs ys] g):Each R (xs.take k++x::xs.drop k) (ys.take k++y::ys.drop k) g:=by
  have h1:star [R x y,Each R (xs.take k) (ys.take k),Each R (xs.drop k) (ys.drop k)] g:=star_cons (l:=[Each R xs ys]) (fun g hg=>by
    obtain ⟨a,b,pa,_,_,sa,_⟩:=hg
    exact star_mono _ (each_split k pa) sa) h
  have h2:star [Each R (xs.take k) (ys.take k),R x y,Each R (xs.drop k) (ys.drop k)] g:=star_swap h1
  refine each_app (star_cons (l':=[Each R (x::xs.drop k) (y::ys.drop k)]) (fun g hg=>star_in hg) h2)
def withF (m:DM) (nm:ByteArray):List DF:=if thereL m.fs nm.toList then m.fs else insL m.fs (findL m.fs nm.toList) ⟨nm,[],0⟩
theorem withF_get (m:DM) (nm:ByteArray):∃ f,(withF m nm)[findL m.fs nm.toList]? = some f∧(withF m nm).getD (findL m.fs nm.toList) ⟨nm,[],0⟩=f∧f.b.length≤usedN m.fs:=by
  unfold withF
  cases ht:thereL m.fs nm.toList with
  | true=>
    obtain ⟨hf,_⟩:=getD_there (d:=⟨nm,[],0⟩) ht
    simp only [if_true]
    refine ⟨_,hf,rfl,?_⟩
    have:=usedN_erase hf
    omega
  | false=>
    have h:=insL_get m.fs (findL m.fs nm.toList) ⟨nm,[],0⟩ (findL_le _ _)
    simp only [Bool.false_eq_true,if_false]
    exact ⟨_,h,by simp [h],by simp⟩
theorem appendM_ok {m:DM}{nm:ByteArray}{bs:List UInt8}(h1:namedB nm=true) (h2:m.down=false) (h3:((!(thereL m.fs nm.toList)&&decide ((m.fs.length:Int)≥64))||decide ((bs.length:Int)>m.room - usedN m.fs))=false) (h4:(spendM m).2=true) :
    appendM m nm bs=({ (spendM m).1 with fs:=(withF m nm).set (findL m.fs nm.toList) { ((withF m nm).getD (findL m.fs nm.toList) ⟨nm,[],0⟩) with b:=((withF m nm).getD (findL m.fs nm.toList) ⟨nm,[],0⟩).b++bs } },0):=by
  unfold appendM
  rw [h1,h2,h3,h4]
  rfl
theorem Append_spec (p:Option Addr) (m:DM) (nm:ByteArray) (d:Sl) (bs:List UInt8):Ct Pr F_device_Device_Append [.pointer p,.string nm,d.v] .one [.int .i64] [DevObj p m] (RAr U8 d bs)
    (fun t Bs=>t.1=(appendM m nm bs).2∧Bs=[DevObj p (appendM m nm bs).1]):=by
  refine spec1 c_device_Device_Append fun B hr=>?_
  have fd:Fro B d U8 bs:=⟨hr⟩
  have hdn:=hr.1
  unfold device_Device_Append
  refine xdev 0 fun hi b s cs hp sf hsn=>?_
  subst hp
  have hinv:=append_inv hi nm bs
  have hlen:=hi.len
  have hcl:=sf.len
  have hu:=hi.used
  have hroom:=hi.room
  refine xcl (find_raw b s cs m nm hi.sorted sf hi.len) rdb ?_
  rintro ⟨r,c,_⟩ _ ⟨h1,h2,rfl⟩
  simp only at h1 h2
  subst h1 h2
  refine app2 (ca2 ?_)
  refine xcl (named_spec nm) rdb ?_
  rintro ⟨c,_⟩ _ ⟨h1,rfl⟩
  simp only at h1
  subst h1
  refine app0 (ca1 (xif (fun hn=>?_) (fun hn=>?_)))
  · have e:appendM m nm bs=(m,8):=by unfold appendM;rw [if_pos hn]
    rw [e]
    exact xdev_back b s cs hi (xret ⟨rfl,rfl⟩)
  have hn:namedB nm=true:=by simpa using hn
  refine xnil (xget (h:=xif (fun hd=>?_) (fun hd=>?_)))
  · have hd:m.down=true:=hd
    have e:appendM m nm bs=(m,10):=by unfold appendM;rw [hn,hd];rfl
    rw [e]
    exact xdev_back b s cs hi (xret ⟨rfl,rfl⟩)
  have hd:m.down=false:=hd
  refine xjoin1 (fun x As'=>x=(!(thereL m.fs nm.toList)&&decide ((m.fs.length:Int)≥64))∧As'=[Blk b (devCells m s),Ar FILE s cs,Each FileR cs m.fs]) ?_ ?_
  · intro J hJ
    refine xif (fun h=>xnil (xget (h:=hJ _ _ ⟨?_,rfl⟩))) (fun h=>hJ _ _ ⟨by rw [h];rfl,rfl⟩)
    rw [h,hsn,hcl];rfl
  rintro _ _ ⟨rfl,rfl⟩
  refine xjoin1 (fun x As'=>x=((!(thereL m.fs nm.toList)&&decide ((m.fs.length:Int)≥64))||decide ((bs.length:Int)>m.room - usedN m.fs))∧As'=[Blk b (devCells m s),Ar FILE s cs,Each FileR cs m.fs]) ?_ ?_
  · intro J hJ
    refine xif (fun h=>hJ _ _ ⟨by rw [h];rfl,rfl⟩) (fun h=>?_)
    refine xcl (Free_raw b s cs m hi sf) rdb ?_
    rintro ⟨r,_⟩ _ ⟨hr,rfl⟩
    simp only at hr
    subst hr
    refine app2 (ca1 (hJ _ _ ⟨?_,rfl⟩))
    rw [h,←hdn];rfl
  rintro _ _ ⟨rfl,rfl⟩
  refine xif (fun hfull=>?_) (fun hfull=>?_)
  · have e:appendM m nm bs=(m,9):=by unfold appendM;rw [hn,hd,hfull];rfl
    rw [e]
    exact xdev_back b s cs hi (xret ⟨rfl,rfl⟩)
  obtain ⟨q1,q2⟩:=spendM_fs m
  refine xnil ?_
  refine xcl (spend_raw b s m hi.left.1 hi.left.2) rdb ?_
  rintro ⟨r,_⟩ _ ⟨hr,rfl⟩
  simp only at hr
  subst hr
  refine app1 (ca1 (xif (fun hsp=>?_) (fun hsp=>?_)))
  · have hsp:(spendM m).2=false:=by simpa using hsp
    have e:appendM m nm bs=((spendM m).1,10):=by unfold appendM;rw [hn,hd,hfull,hsp];rfl
    rw [e] at hinv ⊢
    exact xdev_put 0 0 0 b s cs (spendM m).1 hinv (fun _ h=>by rw [q1];exact h) (xret ⟨rfl,rfl⟩)
  have hsp:(spendM m).2=true:=by simpa using hsp
  rw [appendM_ok hn hd hfull hsp] at hinv ⊢
  have hbs:(bs.length:Int)≤m.room - usedN m.fs:=by
    have:=(Bool.or_eq_false_iff.1 hfull).2
    simpa using this
  refine xjoin0 (fun As'=>∃ s' cs',As'=[Blk b (devCells (spendM m).1 s'),Ar FILE s' cs',Each FileR cs' (withF m nm)]) ?_ ?_
  · intro J hJ
    refine xif (fun h=>?_) (fun h=>?_)
    · have ht:thereL m.fs nm.toList=false:=by simpa using h
      have hle:=findL_le m.fs nm.toList
      refine xnil (xget (h:=xnewS fun b1=>?_))
      refine xcl (Insert_spec s cs (findL m.fs nm.toList) b1 (nm,⟨none,0,0⟩,0) (by omega) (by omega)) rdb ?_
      rintro ⟨s2,_⟩ _ rfl
      refine app1 (ca1 (xnil (xset (h:=?_))))
      refine xadd (A:=FileR (nm,⟨none,0,0⟩,0) ⟨nm,[],0⟩) ⟨rfl,rfl,[],rfl,rfl,.inl ⟨rfl,rfl⟩⟩ ?_
      refine xfold2 0 2 (Q:=Each FileR (cs.take (findL m.fs nm.toList)++(nm,⟨none,0,0⟩,0)::cs.drop (findL m.fs nm.toList)) (withF m nm)) (fun g hg=>?_) ?_
      · unfold withF
        rw [ht]
        exact each_ins _ hg
      · exact xuse [Blk b (devCells (spendM m).1 s2),Ar FILE s2 (cs.take (findL m.fs nm.toList)++(nm,⟨none,0,0⟩,0)::cs.drop (findL m.fs nm.toList)),Each FileR (cs.take (findL m.fs nm.toList)++(nm,⟨none,0,0⟩,0)::cs.drop (findL m.fs nm.toList)) (withF m nm)] (hJ _ ⟨s2,_,rfl⟩)
    · have ht:thereL m.fs nm.toList=true:=by simpa using h
      refine hJ _ ⟨s,cs,?_⟩
      unfold withF
      rw [ht];rfl
  rintro _ ⟨s',cs',rfl⟩
  obtain ⟨f,hf,hgd,hfu⟩:=withF_get m nm
  rw [hgd] at hinv ⊢
  refine xfact 2 (fun g hg=>sf_of hg) fun sf'=>?_
  have hlt:findL m.fs nm.toList<cs'.length:=by rw [sf'.len];exact (List.getElem?_eq_some_iff.1 hf).1
  have hc:=List.getElem?_eq_getElem hlt
  generalize cs'[findL m.fs nm.toList]=c at hc
  obtain ⟨e1,e2,e3,e4⟩:=sf'.each _ _ _ hc hf
  generalize findL m.fs nm.toList=i at *
  refine xdraw (xnil (xget (h:=xnil (xget (h:=?_)))))
  refine xidxn (h1:=hlt) (h:=fun _ _=>?_)
  refine xgetEj hc (h:=?_)
  refine xunf 2 [FileR c f,Each FileR (cs'.eraseIdx i) ((withF m nm).eraseIdx i)] (fun g hg=>each_pick hg hc hf) (app2 ?_)
  refine xfold1 (Q:=Ar U8 c.2.1 f.b) 0 (fun g hg=>hg.2.2) ?_
  refine xapp (y:=d) (hb:=by omega) (h:=fun s6=>xchk (h:=?_))
  refine xidxn (h1:=hlt) (h:=fun _ _=>?_)
  refine xsetEj (c.1,s6,c.2.2) hc (hj:=by decide) (hv:=rfl) (h:=?_)
  refine xfold2 0 0 (Q:=Each FileR (cs'.set i (c.1,s6,c.2.2)) ((withF m nm).set i { f with b:=f.b++bs })) (fun g hg=>?_) ?_
  · exact each_put hlt (List.getElem?_eq_some_iff.1 hf).1 (star_imp (P:=Ar U8 s6 (f.b++bs)) (fun q hq=>(⟨e1,e2,hq⟩:FileR (c.1,s6,c.2.2) { f with b:=f.b++bs } q)) hg)
  exact xdev_put 1 1 0 b s' (cs'.set i (c.1,s6,c.2.2)) _ hinv (fun _ h=>h) (xret ⟨rfl,rfl⟩)
theorem keep_eq {f:DF}(keep:Int) (h:0≤f.sy∧f.sy≤f.b.length) (hb:f.b.length≤16777216) :
    IntKind.i64.wrap (f.sy+(if IntKind.i64.wrap ((f.b.length:Int) - f.sy)<if 0>keep then 0 else keep then IntKind.i64.wrap ((f.b.length:Int) - f.sy) else if 0>keep then 0 else keep))=keepN keep f:=by
  rw [wrap_id ((f.b.length:Int) - f.sy) (by omega) (by omega)]
  have:=keepN_le h keep
  unfold keepN at this ⊢
  rw [wrap_id _ (by omega) (by omega)]
end Go.Cx
namespace Go.Cx
open Go Go.Cf
set_option linter.unusedVariables false
variable {B:Base}{As:List HP}
theorem half_eq (r:Nat):Int.fdiv (r:Int) (2 ^ (min (Int.toNat 1) 32))=((r / 2:Nat):Int):=by
  have e:(2:Int) ^ (min (Int.toNat 1) 32)=2:=by decide
  rw [e,Int.fdiv_eq_ediv_of_nonneg _ (by omega)]
  omega
theorem more_bit (r:Nat) (h:r<4294967296):(if (bits .and .u32 (r:Int) 1 == 1)=true then bits .xor .u32 (Int.fdiv (r:Int) (2 ^ (min (Int.toNat 1) 32))) 3988292384 else Int.fdiv (r:Int) (2 ^ (min (Int.toNat 1) 32)))=((bitN r:Nat):Int):=by
  have e1:bits .and .u32 (r:Int) 1=((r % 2:Nat):Int):=by
    have:=u32_and_nat r 1 h (by decide)
    rw [Nat.and_one_is_mod] at this
    exact this
  rw [e1,half_eq]
  unfold bitN
  by_cases g:r % 2=1
  · rw [if_pos (by rw [g];rfl),if_pos g]
    exact u32_xor_nat (r / 2) 3988292384 (by omega) (by decide)
  · rw [if_neg (by simp;omega),if_neg g]
theorem More_spec (crc:Nat) (hc:crc<4294967296) (b:Sl) (xs:List UInt8) (hm:xs.length≤140737488351232):Ct Pr F_sums_More32 [.int .u32 (crc:Int),b.v] .one [.int .u32] [] (RAr U8 b xs) (fun t Bs=>t.1=(moreN crc xs:Int)∧Bs=[]):=by
  refine spec1 c_sums_More32 fun B hr=>?_
  have fb:Fro B b U8 xs:=⟨hr⟩
  have hb:=hr.1
  unfold sums_More32
  have e0:bits .xor .u32 4294967295 (crc:Int)=((4294967295 ^^^ crc:Nat):Int):=u32_xor_nat 4294967295 crc (by decide) hc
  rw [e0]
  have hi:4294967295 ^^^ crc<4294967296:=xor32_lt (by decide) hc
  refine xloop2 (fun(n:Nat) (r:Int) (i:Int) As=>∃ k:Nat,i=(k:Int)∧r=(runN (4294967295 ^^^ crc) (xs.take k):Int)∧n=xs.length - k∧k≤xs.length∧As=[]) xs.length ⟨0,rfl,rfl,rfl,by omega,rfl⟩ ?_
  rintro n _ _ _ K ⟨k,rfl,rfl,rfl,hk,rfl⟩ hK
  have hlt:=runN_lt (xs.take k) hi
  have hs:k<xs.length→runN (4294967295 ^^^ crc) (xs.take (k+1))=byteN (runN (4294967295 ^^^ crc) (xs.take k)) (xs.getD k 0).toNat:=fun h=>by
    rw [List.take_add_one,List.getElem?_eq_getElem h]
    show runN _ (xs.take k++[xs[k]])=_
    rw [runN_snoc,List.getD_eq_getElem?_getD,List.getElem?_eq_getElem h];rfl
  generalize hr':runN (4294967295 ^^^ crc) (xs.take k)=r at *
  refine xif_dec (fun h=>?_) (fun h=>?_)
  · have hkl:k<xs.length:=by omega
    have hx:=List.getElem?_eq_getElem hkl
    have hy:=u8_lt xs[k]
    have hs:=hs hkl
    rw [List.getD_eq_getElem?_getD,hx] at hs
    simp only [Option.getD_some] at hs
    generalize xs[k]=y at *
    refine xidxn (h1:=hkl) (h:=fun _ _=>?_)
    refine xgetE hx (h:=?_)
    have e1:bits .xor .u32 (r:Int) (IntKind.u32.wrap (y.toNat:Int))=((r ^^^ y.toNat:Nat):Int):=by
      rw [wrap_u32 y.toNat (by omega)]
      exact u32_xor_nat r y.toNat hlt (by omega)
    rw [e1]
    have h2:r ^^^ y.toNat<4294967296:=xor32_lt hlt (by omega)
    refine xloop2 (fun(n:Nat) (r1:Int) (i:Int) As=>∃ j:Nat,i=(j:Int)∧r1=(bitsN j (r ^^^ y.toNat):Int)∧n=8 - j∧j≤8∧As=[]) 8 ⟨0,rfl,rfl,rfl,by omega,rfl⟩ ?_
    rintro n _ _ _ K2 ⟨j,rfl,rfl,rfl,hj,rfl⟩ hK2
    have hl2:=bitsN_lt j h2
    refine xif_dec (fun h=>?_) (fun h=>?_)
    · have hstep:bitsN (j+1) (r ^^^ y.toNat)=bitN (bitsN j (r ^^^ y.toNat)):=rfl
      generalize bitsN j (r ^^^ y.toNat)=q at *
      have eb:=more_bit q hl2
      refine xasrt (by decide) (xjoin ?_)
      rw [wrap_succ j (by omega)]
      refine xif (fun g=>?_) (fun g=>?_)
      · rw [if_pos g] at eb
        rw [eb]
        exact hK2 (8 - (j+1)) _ _ _ (by omega) ⟨j+1,rfl,by rw [hstep],rfl,by omega,rfl⟩
      · rw [if_neg (by rw [g];simp)] at eb
        rw [eb]
        exact hK2 (8 - (j+1)) _ _ _ (by omega) ⟨j+1,rfl,by rw [hstep],rfl,by omega,rfl⟩
    · have:j=8:=by omega
      subst this
      rw [wrap_succ k (by omega)]
      refine hK (xs.length - (k+1)) _ _ _ (by omega) ⟨k+1,rfl,?_,rfl,by omega,rfl⟩
      rw [hs];rfl
  · have:k=xs.length:=by omega
    subst this
    rw [List.take_length] at hr'
    refine xret ⟨?_,rfl⟩
    rw [show bits .xor .u32 4294967295 (r:Int)=((4294967295 ^^^ r:Nat):Int) from u32_xor_nat 4294967295 r (by decide) hlt,←hr']
    rfl
end Go.Cx
namespace Go.Cx
open Go Go.Cf
set_option linter.unusedVariables false
variable {B:Base}{As:List HP}
theorem more_bit2 (r:Nat) (h:r<4294967296):(if ((r:Int).tmod 2 == 1)=true then bits .xor .u32 (IntKind.u32.wrap ((r:Int).tdiv 2)) 3988292384 else IntKind.u32.wrap ((r:Int).tdiv 2))=((bitN r:Nat):Int):=by
  have e1:(r:Int).tmod 2=((r % 2:Nat):Int):=by rw [Int.tmod_eq_emod_of_nonneg (by omega)];omega
  have e2:(r:Int).tdiv 2=((r / 2:Nat):Int):=by rw [Int.tdiv_eq_ediv_of_nonneg (by omega)];omega
  rw [e1,e2,wrap_u32 _ (by omega)]
  unfold bitN
  by_cases g:r % 2=1
  · rw [if_pos (by rw [g];rfl),if_pos g]
    exact u32_xor_nat (r / 2) 3988292384 (by omega) (by decide)
  · rw [if_neg (by simp;omega),if_neg g]
theorem Crc_spec (b:Sl) (xs:List UInt8) (hm:xs.length≤140737488351232):Ct Pr F_sums_Crc32 [b.v] .one [.int .u32] [] (RAr U8 b xs) (fun t Bs=>t.1=(moreN 0 xs:Int)∧Bs=[]):=by
  refine spec1 c_sums_Crc32 fun B hr=>?_
  have fb:Fro B b U8 xs:=⟨hr⟩
  unfold sums_Crc32
  refine xcl (More_spec 0 (by decide) b xs hm) rdb ?_
  rintro ⟨r,_⟩ _ ⟨h,rfl⟩
  exact app0 (ca1 (xret ⟨h,rfl⟩))
theorem sumOf_spec (p:Sl) (xs:List UInt8) (hm:xs.length≤65535):Ct Pr F_chunk_sumOf [p.v] .one [.int .u32] [] (RAr U8 p xs) (fun t Bs=>t.1=(sumN xs:Int)∧Bs=[]):=by
  refine spec1 c_chunk_sumOf fun B hr=>?_
  have fb:Fro B p U8 xs:=⟨hr⟩
  have hp:=hr.1
  unfold chunk_sumOf
  refine xasrt (by decide) ?_
  rw [shr_eq p.n _ 256 (by decide),byte_of,byte_of,←hp]
  refine xnew fun b=>?_
  refine xfold1 (Q:=Ar U8 ⟨some ⟨b,0,none⟩,2,2⟩ (hdN xs.length)) 0 (fun g hg=>⟨[],blk_ar (hdN xs.length) 2 rfl rfl hg⟩) ?_
  refine xcl (Crc_spec ⟨some ⟨b,0,none⟩,2,2⟩ (hdN xs.length) (by show 2≤_;omega)) rdb ?_
  rintro ⟨r,_⟩ _ ⟨h,rfl⟩
  simp only at h
  subst h
  refine app0 (ca1 ?_)
  refine xcl (More_spec (moreN 0 (hdN xs.length)) (moreN_lt (by decide) _) p xs (by omega)) rdb ?_
  rintro ⟨r,_⟩ _ ⟨h,rfl⟩
  exact app0 (ca1 (xdrop 0 (xret ⟨h,rfl⟩)))
end Go.Cx
namespace Go.Cf
open Go
set_option linter.unusedVariables false
variable {B:Base}{As:List HP}{α:Type}
theorem xmake2 {P:Program}{t e:TypeId}{sz by_:Nat}{z:List Value} [a:AppT P t e sz by_ z] (E:Enc α) (n c:Nat) {K:Sl→WP}(h0:n≤c) (hb:c*by_≤140737488355328) (hsz:E.sz=sz:=by rfl) (hz:E.f E.zero=z:=by rfl)
    (h:∀ b,Ent B (Ars E ⟨some ⟨b,0,none⟩,n,c⟩ (List.replicate n E.zero) (List.replicate (c - n) E.zero)::As) (K ⟨some ⟨b,0,none⟩,n,c⟩)):Ent B As (XMake P t (.int .i64 (n:Int)) (.int .i64 (c:Int)) K):=by
  intro w hw
  obtain ⟨i,z0,ht,hi,hsize,hbytes,hpos,hz0,hzs⟩:=appOk_spec a.ok
  obtain ⟨i',z',hi',hz',hzf⟩:=zeroOf_some a.zero
  obtain rfl:i'=i:=by rw [hi] at hi';exact (Option.some.inj hi').symm
  obtain rfl:z'=z0:=by rw [hz0] at hz';exact (Option.some.inj hz').symm
  have hle:c≤c*by_:=Nat.le_mul_of_pos_right _ hpos
  have hr:=run_make (P:=P) w t e i' z' ht hi hz0 .i64 .i64 (n:Int) (c:Int) (by omega) (by omega) (by
    have:((i'.bytes*c:Nat):Int)≤281474976710656:=by rw [hbytes,Nat.mul_comm];omega
    rw [Int.natCast_mul] at this
    exact this) (by omega)
  rw [hsize,madeCells_repL _ _ _ hzs,←hzf,←hz,repL_flat] at hr
  refine ⟨⟨some ⟨w.heap.size,0,none⟩,n,c⟩,_,hr,h w.heap.size _ ?_⟩
  obtain ⟨g,hg,hm,hu⟩:=hw.alloc (flat E (List.replicate c E.zero)) e
  refine ⟨g,star_imp (fun q hq=>?_) hg,hm,hu⟩
  refine Ars.of_blk (pre:=[]) (post:=[]) (b:=w.heap.size) (o:=0) ?_ rfl rfl (by simp) (by simp;omega) (by show c≤_;omega)
  rw [List.replicate_append_replicate,show n+(c - n)=c by omega]
  simpa using hq
theorem xcopy0 {P:Program}{t u ty e:TypeId}{sz by_:Nat}{z:List Value} [a:AppT P t e sz by_ z] {E:Enc α}{s y:Sl}{xs zs ys:List α}{F:List HP}{K:Int→WP}
    (hy:∀ w,Sx B (Ars E s xs zs::F) w→RAr E y ys (mem w)) (hsz:E.sz=sz:=by rfl) (hl:ys.length=xs.length) (hn:xs.length=s.n) (hc:s.n≤s.c)
    (h:∀ n,Ent B (Ars E s ys zs::F) (K n)):Ent B (Ars E s xs zs::F) (XCopy P t u ty s.v y.v K):=by
  have e:s.cut 0 s.n s.c sz=s:=cut_zero s s.n sz
  have:=xcopy (P:=P) (t:=t) (u:=u) (ty:=ty) (K:=K) (s:=s) (y:=y) (l:=0) (r:=s.n) (m:=s.c) (sz:=sz) (xs:=xs) (zs:=zs) (ys:=ys) (F:=F) (B:=B) hy ys zs (hsz:=hsz) (hrm:=hc) (hlk:=by omega) (hl:=hl) (he:=by
    have:min ys.length (s.n - 0)=xs.length:=by omega
    rw [this,Nat.zero_add,List.drop_left,List.take_zero,List.take_of_length_le (by omega)];rfl) (h:=h)
  rw [e] at this
  exact this
end Go.Cf
namespace Go.Cx
open Go Go.Cf
set_option linter.unusedVariables false
variable {B:Base}{As:List HP}
theorem chunkPut_spec (p:Sl) (xs:List UInt8) (hm:xs.length≤1024):Ct Pr F_chunk_Put [p.v] (.tup [none,none]) [.slice,.int .i64] [] (RAr U8 p xs) (fun t Bs=>t.2.1=0∧Bs=[Ar U8 t.1 (frameN xs)]):=by
  refine spec2 c_chunk_Put fun B hr=>?_
  have fb:Fro B p U8 xs:=⟨hr⟩
  have hp:=hr.1
  unfold chunk_Put
  refine xiff (by rw [←hp];simp;omega) ?_
  refine xcl (sumOf_spec p xs (by omega)) rdb ?_
  rintro ⟨r,_⟩ _ ⟨h,rfl⟩
  simp only at h
  subst h
  refine app0 (ca1 ?_)
  rw [show IntKind.i64.wrap (6+(p.n:Int))=((6+xs.length:Nat):Int) by rw [wrap_id _ (by omega) (by omega)];omega]
  refine xmake2 U8 6 (6+xs.length) (by omega) (by omega) (h:=fun b=>?_)
  refine xasrt (by decide) (xasrt (by decide) (xasrt (by decide) (xasrt (by decide) ?_)))
  rw [shr_eq p.n _ 256 (by decide),byte_of,byte_of,←hp,shr_eq (sumN xs) _ 16777216 (by decide),shr_eq (sumN xs) _ 65536 (by decide),shr_eq (sumN xs) _ 256 (by decide),byte_of,byte_of,byte_of,byte_of]
  refine xnew fun b1=>?_
  refine xfold1 (Q:=Ar U8 ⟨some ⟨b1,0,none⟩,6,6⟩ (hdN xs.length++crcB (sumN xs))) 0 (fun g hg=>⟨[],blk_ar (hdN xs.length++crcB (sumN xs)) 6 rfl rfl hg⟩) (xfront 1 ?_)
  refine xcopy0 (y:=⟨some ⟨b1,0,none⟩,6,6⟩) (ys:=hdN xs.length++crcB (sumN xs)) (fun w hw=>?_) (hl:=by rw [List.length_replicate];rfl) (hn:=by rw [List.length_replicate]) (hc:=by simp only;omega) (h:=fun n=>?_)
  · obtain ⟨g,hg,hs⟩:=hw.tail.head
    exact hg.read.mono hs
  refine xar ?_
  refine xapp (y:=p) (hb:=by rw [show (hdN xs.length++crcB (sumN xs)).length=6 from rfl];omega) (h:=fun s1=>?_)
  exact xdrop 1 (xret ⟨rfl,rfl⟩)
theorem or_add (a b i:Nat) (h:b<2 ^ i):(a*2 ^ i) ||| b=a*2 ^ i+b:=by
  rw [←Nat.shiftLeft_eq]
  exact (Nat.shiftLeft_add_eq_or_of_lt h a).symm
theorem i64_or_nat (a b:Nat) (ha:a<65536) (hb:b<65536):bits .or .i64 (a:Int) (b:Int)=((a ||| b:Nat):Int):=by
  have hx:a ||| b<2 ^ 16:=Nat.or_lt_two_pow (by omega) (by omega)
  show IntKind.i64.wrap ((BitVec.ofInt 64 (a:Int) ||| BitVec.ofInt 64 (b:Int)).toNat:Int)=_
  rw [BitVec.toNat_or,ofInt_u64 a (by omega),ofInt_u64 b (by omega),wrap_id _ (by omega) (by omega)]
theorem len_eq (x y:UInt8):bits .or .i64 (IntKind.i64.wrap ((IntKind.i64.wrap (x.toNat:Int))*2 ^ (min (Int.toNat 8) 64))) (IntKind.i64.wrap (y.toNat:Int))=((x.toNat*256+y.toNat:Nat):Int):=by
  have hx:=u8_lt x
  have hy:=u8_lt y
  have e:(2:Int) ^ (min (Int.toNat 8) 64)=256:=by decide
  rw [e,wrap_id (x.toNat:Int) (by omega) (by omega),wrap_id ((x.toNat:Int)*256) (by omega) (by omega),wrap_id (y.toNat:Int) (by omega) (by omega)]
  have e2:((x.toNat:Int)*256)=((x.toNat*256:Nat):Int):=by omega
  rw [e2,i64_or_nat _ _ (by omega) (by omega)]
  rw [show x.toNat*256=x.toNat*2 ^ 8 from rfl,or_add _ _ 8 (by omega)]
theorem crc_eq (a b c d:UInt8):bits .or .u32 (bits .or .u32 (bits .or .u32 (IntKind.u32.wrap ((IntKind.u32.wrap (a.toNat:Int))*2 ^ (min (Int.toNat 24) 32))) (IntKind.u32.wrap ((IntKind.u32.wrap (b.toNat:Int))*2 ^ (min (Int.toNat 16) 32)))) (IntKind.u32.wrap ((IntKind.u32.wrap (c.toNat:Int))*2 ^ (min (Int.toNat 8) 32)))) (IntKind.u32.wrap (d.toNat:Int))=(((((a.toNat*256+b.toNat)*256+c.toNat)*256+d.toNat:Nat)):Int):=by
  have ha:=u8_lt a
  have hb:=u8_lt b
  have hc:=u8_lt c
  have hd:=u8_lt d
  generalize a.toNat=a at *
  generalize b.toNat=b at *
  generalize c.toNat=c at *
  generalize d.toNat=d at *
  have e1:(2:Int) ^ (min (Int.toNat 24) 32)=16777216:=by decide
  have e2:(2:Int) ^ (min (Int.toNat 16) 32)=65536:=by decide
  have e3:(2:Int) ^ (min (Int.toNat 8) 32)=256:=by decide
  rw [e1,e2,e3,wrap_u32 a (by omega),wrap_u32 b (by omega),wrap_u32 c (by omega),wrap_u32 d (by omega)]
  have f1:IntKind.u32.wrap ((a:Int)*16777216)=((a*16777216:Nat):Int):=by rw [show ((a:Int)*16777216)=((a*16777216:Nat):Int) by omega,wrap_u32 _ (by omega)]
  have f2:IntKind.u32.wrap ((b:Int)*65536)=((b*65536:Nat):Int):=by rw [show ((b:Int)*65536)=((b*65536:Nat):Int) by omega,wrap_u32 _ (by omega)]
  have f3:IntKind.u32.wrap ((c:Int)*256)=((c*256:Nat):Int):=by rw [show ((c:Int)*256)=((c*256:Nat):Int) by omega,wrap_u32 _ (by omega)]
  rw [f1,f2,f3]
  have g1:a*16777216 ||| b*65536=(a*256+b)*65536:=by
    rw [show a*16777216=a*2 ^ 24 from rfl,or_add _ _ 24 (by omega)];omega
  have g2:(a*256+b)*65536 ||| c*256=((a*256+b)*256+c)*256:=by
    rw [show (a*256+b)*65536=(a*256+b)*2 ^ 16 from rfl,or_add _ _ 16 (by omega)];omega
  have g3:((a*256+b)*256+c)*256 ||| d=((a*256+b)*256+c)*256+d:=by
    rw [show ((a*256+b)*256+c)*256=((a*256+b)*256+c)*2 ^ 8 from rfl,or_add _ _ 8 (by omega)]
  rw [u32_or_nat _ _ (by omega) (by omega),g1,u32_or_nat _ _ (by omega) (by omega),g2,u32_or_nat _ _ (by omega) (by omega),g3]
theorem chunkGet_spec (b:Sl) (xs:List UInt8) (hm:xs.length≤140737488351232) (hcap:b.n≤b.c):Ct Pr F_chunk_Get [b.v] (.tup [none,none,none]) [.slice,.int .i64,.int .i64] [] (RAr U8 b xs)
    (fun t Bs=>t.2.1=((getN xs).2.1:Int)∧t.2.2.1=(getN xs).2.2∧Bs=[Ar U8 t.1 (getN xs).1]):=by
  refine spec3 c_chunk_Get fun B hr=>?_
  have fb:Fro B b U8 xs:=⟨hr⟩
  have hb:=hr.1
  unfold chunk_Get
  refine xif_dec (fun h=>?_) (fun h=>?_)
  · refine xnone U8 (xret ?_)
    unfold getN
    rw [if_pos (by omega)]
    exact ⟨rfl,rfl,rfl⟩
  have h6:6≤xs.length:=by omega
  have x0:=List.getElem?_eq_getElem (l:=xs) (i:=0) (by omega)
  have x1:=List.getElem?_eq_getElem (l:=xs) (i:=1) (by omega)
  have x2:=List.getElem?_eq_getElem (l:=xs) (i:=2) (by omega)
  have x3:=List.getElem?_eq_getElem (l:=xs) (i:=3) (by omega)
  have x4:=List.getElem?_eq_getElem (l:=xs) (i:=4) (by omega)
  have x5:=List.getElem?_eq_getElem (l:=xs) (i:=5) (by omega)
  have hfl:frLen xs=xs[0].toNat*256+xs[1].toNat:=by unfold frLen;rw [getD_of x0,getD_of x1]
  have hcr:crcOf xs=((xs[2].toNat*256+xs[3].toNat)*256+xs[4].toNat)*256+xs[5].toNat:=by unfold crcOf;rw [getD_of x2,getD_of x3,getD_of x4,getD_of x5]
  generalize xs[0]=y0 at *
  generalize xs[1]=y1 at *
  generalize xs[2]=y2 at *
  generalize xs[3]=y3 at *
  generalize xs[4]=y4 at *
  generalize xs[5]=y5 at *
  refine xdraw ?_
  refine xidxn (k:=0) (h1:=by omega) (h:=fun _ _=>?_)
  refine xgetE x0 (h:=xasrt (by decide) ?_)
  refine xidxn (k:=1) (h1:=by omega) (h:=fun _ _=>?_)
  refine xgetE x1 (h:=?_)
  rw [len_eq y0 y1,←hfl]
  refine xif_dec (fun g=>?_) (fun g=>?_)
  · refine xnone U8 (xret ?_)
    unfold getN
    rw [if_neg (by omega),if_pos (by omega)]
    exact ⟨rfl,rfl,rfl⟩
  rw [show IntKind.i64.wrap (6+((frLen xs:Nat):Int))=((6+frLen xs:Nat):Int) by rw [wrap_id _ (by omega) (by omega)];omega]
  refine xif_dec (fun g2=>?_) (fun g2=>?_)
  · refine xnone U8 (xret ?_)
    unfold getN
    rw [if_neg (by omega),if_neg (by omega),if_pos (by omega)]
    exact ⟨rfl,rfl,rfl⟩
  have hgo:getN xs=if crcOf xs=sumN ((xs.take (6+frLen xs)).drop 6) then ((xs.take (6+frLen xs)).drop 6,6+frLen xs,0) else ([],0,5):=by
    unfold getN
    rw [if_neg (by omega),if_neg (by omega),if_neg (by omega)]
  have fc:Fro B (b.cut 6 (6+frLen xs) b.c 1) U8 ((xs.take (6+frLen xs)).drop 6):=⟨hr.cut 6 (6+frLen xs) b.c (by omega) (by omega) (by omega)⟩
  have hpl:((xs.take (6+frLen xs)).drop 6).length=frLen xs:=by simp;omega
  generalize (xs.take (6+frLen xs)).drop 6=q at *
  refine xnew fun b1=>?_
  refine xfold1 (Q:=Ar U8 ⟨some ⟨b1,0,none⟩,0,0⟩ []) 0 (fun g hg=>⟨[],blk_ar [] 0 rfl rfl hg⟩) ?_
  refine xslc (by omega) (by omega) (by omega) (by omega) ?_
  simp only [Int.toNat_natCast]
  refine xapp (s:=⟨some ⟨b1,0,none⟩,0,0⟩) (y:=b.cut 6 (6+frLen xs) b.c 1) (hb:=by rw [hpl];simp;omega) (h:=fun s1=>?_)
  rw [List.nil_append]
  refine xdraw ?_
  refine xidxn (k:=2) (h1:=by omega) (h:=fun _ _=>?_)
  refine xgetE x2 (h:=xasrt (by decide) ?_)
  refine xidxn (k:=3) (h1:=by omega) (h:=fun _ _=>?_)
  refine xgetE x3 (h:=xasrt (by decide) ?_)
  refine xidxn (k:=4) (h1:=by omega) (h:=fun _ _=>?_)
  refine xgetE x4 (h:=xasrt (by decide) ?_)
  refine xidxn (k:=5) (h1:=by omega) (h:=fun _ _=>?_)
  refine xgetE x5 (h:=?_)
  refine xcl (sumOf_spec s1 q (by omega)) rdb ?_
  rintro ⟨r,_⟩ _ ⟨hs,rfl⟩
  simp only at hs
  subst hs
  refine app0 (ca1 ?_)
  refine xchkE x5 (h:=?_)
  refine xchkE x4 (h:=?_)
  refine xchkE x3 (h:=?_)
  refine xchkE x2 (h:=?_)
  rw [crc_eq,←hcr]
  refine xif (fun e=>?_) (fun e=>?_)
  · have e:¬ crcOf xs=sumN q:=by simp at e;omega
    rw [hgo,if_neg e]
    exact xdrop 0 (xnone U8 (xret ⟨rfl,rfl,rfl⟩))
  · have e:crcOf xs=sumN q:=by simp at e;omega
    rw [hgo,if_pos e]
    exact xret ⟨rfl,rfl,rfl⟩
end Go.Cx
namespace Go.Cf
open Go
set_option linter.unusedVariables false
variable {B:Base}{As:List HP}{α:Type}
theorem xcopyW {P:Program}{t u ty e:TypeId}{sz by_:Nat}{z:List Value} [a:AppT P t e sz by_ z] {E:Enc α}{s y:Sl}{xs zs ys:List α}{F:List HP}{K:Int→WP}
    (hy:∀ w,Sx B (Ars E s xs zs::F) w→RAr E y ys (mem w)) (hsz:E.sz=sz:=by rfl) (hl:ys.length≤xs.length) (hn:xs.length=s.n) (hc:s.n≤s.c)
    (h:∀ n,Ent B (Ars E s (ys++xs.drop ys.length) zs::F) (K n)):Ent B (Ars E s xs zs::F) (XCopy P t u ty s.v y.v K):=by
  have e:s.cut 0 s.n s.c sz=s:=cut_zero s s.n sz
  have:=xcopy (P:=P) (t:=t) (u:=u) (ty:=ty) (K:=K) (s:=s) (y:=y) (l:=0) (r:=s.n) (m:=s.c) (sz:=sz) (xs:=xs) (zs:=zs) (ys:=ys) (F:=F) (B:=B) hy (ys++xs.drop ys.length) zs (hsz:=hsz) (hrm:=hc) (hlk:=by omega) (hl:=by simp;omega) (he:=by
    have:min ys.length (s.n - 0)=ys.length:=by omega
    rw [this,Nat.zero_add,List.take_zero,List.take_of_length_le (by omega),List.drop_append_of_le_length hl];simp) (h:=h)
  rw [e] at this
  exact this
end Go.Cf
namespace Go.Cx
open Go Go.Cf
set_option linter.unusedVariables false
variable {B:Base}{As:List HP}
theorem shift_le:∀ k:Nat,k<8→(2:Int) ^ (min (Int.toNat (IntKind.i64.wrap (8*(k:Int)))) 64)=((256 ^ k:Nat):Int)∧0≤IntKind.i64.wrap (8*(k:Int)):=by decide
end Go.Cx
namespace Go.Cx
open Go Go.Cf
set_option linter.unusedVariables false
variable {B:Base}{As:List HP}
theorem or64 (v:Nat) (y:UInt8) (hv:v<72057594037927936):bits .or .u64 (IntKind.u64.wrap ((v:Int)*2 ^ (min (Int.toNat 8) 64))) (IntKind.u64.wrap (y.toNat:Int))=((v*256+y.toNat:Nat):Int):=by
  have hy:=u8_lt y
  have e:(2:Int) ^ (min (Int.toNat 8) 64)=256:=by decide
  rw [e,show (v:Int)*256=((v*256:Nat):Int) by omega,wrap_u64 _ (by omega),wrap_u64 _ (by omega),u64_or_nat _ _ (by omega) (by omega),show v*256=v*2 ^ 8 from rfl,or_add _ _ 8 (by omega)]
end Go.Cx
namespace Go.Cx
open Go Go.Cf
set_option linter.unusedVariables false
variable {B:Base}{As:List HP}
theorem cut_to_end (s:Sl) (xs:List UInt8) {h:Frag}(hr:RAr U8 s xs h) (at':Nat) (ha:at'≤xs.length) (hcap:s.n≤s.c):RAr U8 (s.cut at' s.n s.c 1) (xs.drop at') h:=by
  have:=hr.cut at' s.n s.c (by have:=hr.1;omega) hcap (by rw [hr.1];exact Nat.le_refl _)
  rw [List.take_of_length_le (by rw [hr.1];exact Nat.le_refl _)] at this
  exact this
theorem Scan_spec (b:Sl) (xs:List UInt8) (hm:xs.length≤16777216) (hcap:b.n≤b.c):Ct Pr F_chunk_Scan [b.v] (.tup [none,none]) [.slice,.int .i64] [] (RAr U8 b xs)
    (fun t Bs=>t.2.1=((scanN xs).2:Int)∧∃ rs,Bs=[Ar SL t.1 rs,Each (Ar U8) rs (scanN xs).1]):=by
  refine spec2 c_chunk_Scan fun B hr=>?_
  have fb:Fro B b U8 xs:=⟨hr⟩
  have hb:=hr.1
  have hlen:=(scan_used xs.length xs (Nat.le_refl _)).2.1
  unfold chunk_Scan
  refine xnone SL ?_
  refine xadd (A:=Each (Ar U8) [] []) trivial ?_
  refine xloop2 (fun n l i As=>∃ (k:Nat) (rs:List Sl) (done:List (List UInt8)),i=(k:Int)∧n=xs.length - k∧k≤xs.length∧scanN xs=(done++(scanN (xs.drop k)).1,k+(scanN (xs.drop k)).2)∧As=[Each (Ar U8) rs done,Ar SL l rs]) xs.length ⟨0,[],[],rfl,rfl,by omega,by simp,rfl⟩ ?_
  rintro n l _ _ K ⟨k,rs,done,rfl,rfl,hk,hsc,rfl⟩ hK
  refine xslc (by omega) (by omega) (by omega) (by omega) ?_
  simp only [Int.toNat_natCast]
  have hdl:(xs.drop k).length=xs.length - k:=List.length_drop
  refine xcl (pre:=[]) (G:=[Each (Ar U8) rs done,Ar SL l rs]) (chunkGet_spec (b.cut k b.n b.c 1) (xs.drop k) (by omega) (by simp only [Sl.cut];omega)) (rds_of fun g hg _ _ _=>(cut_to_end b xs hr k hk hcap).mono hg) ?_
  rintro ⟨s1,r,r1,_⟩ _ ⟨h1,h2,rfl⟩
  simp only at h1 h2
  subst h1 h2
  refine app1 (ca3 ?_)
  refine xif (fun h=>?_) (fun h=>?_)
  · have h:¬ (getN (xs.drop k)).2.2=0:=by simpa using h
    rw [scan_no h] at hsc
    refine xuse [Ar SL l rs,Each (Ar U8) rs done] (xret ⟨?_,rs,?_⟩)
    · rw [hsc];simp
    · rw [hsc];simp
  · have h:(getN (xs.drop k)).2.2=0:=by simpa using h
    obtain ⟨g1,g2,_⟩:=getN_ok h
    rw [scan_ok h] at hsc
    refine xfact 1 (fun g hg=>Each.length hg) fun hrl=>?_
    have hdn:done.length+1≤xs.length:=by
      have:=congrArg (fun p=>p.1.length) hsc
      simp only [List.length_append,List.length_cons] at this
      omega
    refine xnew fun b1=>?_
    refine xapp1 s1 (hb:=by omega) (h:=fun s2=>?_)
    rw [show IntKind.i64.wrap ((k:Int)+((getN (xs.drop k)).2.1:Int))=((k+(getN (xs.drop k)).2.1:Nat):Int) by rw [wrap_id _ (by omega) (by omega)];omega]
    refine xfold [Each (Ar U8) rs done,Ar U8 s1 (getN (xs.drop k)).1] (Each (Ar U8) (rs++[s1]) (done++[(getN (xs.drop k)).1])) (fun g hg=>each_snoc hg) ?_
    refine hK (xs.length - (k+(getN (xs.drop k)).2.1)) _ _ _ (by omega) ⟨k+(getN (xs.drop k)).2.1,rs++[s1],done++[(getN (xs.drop k)).1],rfl,rfl,by omega,?_,rfl⟩
    rw [List.drop_drop] at hsc
    rw [hsc]
    simp [Nat.add_assoc]
end Go.Cx
namespace Go.Cx
open Go Go.Cf
set_option linter.unusedVariables false
end Go.Cx
namespace Go.Cx
open Go Go.Cf
set_option linter.unusedVariables false
variable {B:Base}{As:List HP}
theorem packGet_spec (b:Sl) (xs:List UInt8) (a:Nat) (ha:a+8≤xs.length) (hm:xs.length≤140737488351232) (hcap:b.n≤b.c):Ct Pr F_pack_Get [b.v,.int .i64 (a:Int),.int .i64 8] (.tup [none,none]) [.int .u64,.int .i64] [] (RAr U8 b xs)
    (fun t Bs=>t.1=(beV (cut8 xs a):Int)∧t.2.1=0∧Bs=[]):=by
  refine spec2 c_pack_Get fun B hr=>?_
  have fb:Fro B b U8 xs:=⟨hr⟩
  have hb:=hr.1
  unfold pack_Get
  refine xiff rfl (xiff ?_ ?_)
  · rw [wrap_id _ (by omega) (by omega)]
    simp;omega
  rw [show IntKind.i64.wrap ((a:Int)+8)=((a+8:Nat):Int) by rw [wrap_id _ (by omega) (by omega)];omega]
  refine xslc (by omega) (by omega) (by omega) (by omega) ?_
  simp only [Int.toNat_natCast]
  have fc:Fro B (b.cut a (a+8) b.c 1) U8 (cut8 xs a):=⟨hr.cut a (a+8) b.c (by omega) (by omega) (by omega)⟩
  have hq:=cut8_len ha
  have hsn:=fc.rd.1
  refine xloop2 (fun(n:Nat) (v:Int) (i:Int) As=>∃ k:Nat,i=(k:Int)∧v=((beV ((cut8 xs a).take k):Nat):Int)∧n=8 - k∧k≤8∧As=[]) 8 ⟨0,rfl,rfl,rfl,by omega,rfl⟩ ?_
  rintro n _ _ _ K ⟨k,rfl,rfl,rfl,hk,rfl⟩ hK
  refine xif_dec (fun h=>?_) (fun h=>?_)
  · have hk8:k<8:=by omega
    have hx:=List.getElem?_eq_getElem (l:=cut8 xs a) (i:=k) (by omega)
    refine xidxn (h1:=by omega) (h:=fun _ _=>?_)
    refine xgetE hx (h:=xasrt (by decide) ?_)
    rw [or64 _ _ (beV_small hq hk8),wrap_succ k (by omega)]
    exact hK (8 - (k+1)) _ _ _ (by omega) ⟨k+1,rfl,by rw [beV_step hx],rfl,by omega,rfl⟩
  · have hk8:k=8:=by omega
    subst hk8
    rw [List.take_of_length_le (by omega)]
    exact xret ⟨rfl,rfl,rfl⟩
end Go.Cx
