/-
  The device: files that are found, put in, taken out.
-/
import Derived.Test.YtlcnhajfgilipaaGreatDoorK
namespace Go.Cx
open Go Go.Cf
set_option linter.unusedVariables false
variable {B : Base} {As : List HP}

/-- A file as it lies. -/
abbrev CF := ByteArray × Sl × Int
def FILE : Enc CF := ⟨fun x => [.string x.1, x.2.1.v, .int .i64 x.2.2], 3, fun _ => rfl, fun x v h => by simp at h; rcases h with rfl | rfl | rfl <;> rfl, by decide, (ByteArray.empty, ⟨none, 0, 0⟩, 0)⟩

theorem isNaN_spec (x : ByteArray) : Ct Pr F_cmp_isNaN_string_ [.string x] .one [.bool] [] emp (fun t Bs => t.1 = false ∧ Bs = []) := by
  refine spec1 c_cmp_isNaN_string_ fun B _ => ?_
  unfold cmp_isNaN_string_
  exact xret ⟨by simp, rfl⟩

def cmpL (a b : Key) : Int := if lt a b then -1 else if a = b then 0 else 1

theorem Compare_spec (x y : ByteArray) : Ct Pr F_cmp_Compare_string_ [.string x, .string y] .one [.int .i64] [] emp (fun t Bs => t.1 = cmpL x.toList y.toList ∧ Bs = []) := by
  refine spec1 c_cmp_Compare_string_ fun B _ => ?_
  unfold cmp_Compare_string_
  refine xcl (isNaN_spec x) rdb ?_
  rintro ⟨c, _⟩ _ ⟨hc, rfl⟩
  obtain rfl : c = false := hc
  refine app0 (ca1 ?_)
  refine xcl (isNaN_spec y) rdb ?_
  rintro ⟨c, _⟩ _ ⟨hc, rfl⟩
  obtain rfl : c = false := hc
  refine app0 (ca1 (xiff rfl (xiff rfl (xif (fun h => ?_) (fun h => ?_)))))
  · exact xret ⟨by simp [cmpL, lt, h], rfl⟩
  · refine xif (fun h2 => ?_) (fun h2 => ?_)
    · refine xret ⟨?_, rfl⟩
      have : ¬ x.toList = y.toList := fun e => by rw [e] at h2; simp at h2
      simp [cmpL, lt, h, this]
    · refine xret ⟨?_, rfl⟩
      have : x.toList = y.toList := by simpa [h] using h2
      show (0 : Int) = _
      rw [cmpL, this, lt_irrefl]; simp

theorem find1_spec (c : CF) (nm : ByteArray) : Ct Pr F_device_Device_find_1 [.agg #[.string c.1, c.2.1.v, .int .i64 c.2.2], .string nm] .one [.int .i64] [] emp (fun t Bs => t.1 = cmpL c.1.toList nm.toList ∧ Bs = []) := by
  refine spec1 c_device_Device_find_1 fun B _ => ?_
  unfold device_Device_find_1
  refine xnew fun b => xget (h := ?_)
  refine xcl (Compare_spec c.1 nm) rdb ?_
  rintro ⟨r, _⟩ _ ⟨hr, rfl⟩
  exact app0 (ca1 (xdrop 0 (xret ⟨hr, rfl⟩)))

theorem mid_eq (i j : Nat) (h : i + j ≤ 1000000) : IntKind.i64.wrap (Int.fdiv (IntKind.u64.wrap (IntKind.i64.wrap ((i : Int) + (j : Int)))) (2 ^ (min (Int.toNat 1) 64))) = (((i + j) / 2 : Nat) : Int) := by
  rw [wrap_id ((i : Int) + (j : Int)) (by omega) (by omega)]
  have e1 : (2 ^ IntKind.u64.bits : Int) = 18446744073709551616 := by decide
  have e3 : IntKind.u64.signed = false := rfl
  have e : IntKind.u64.wrap ((i : Int) + (j : Int)) = (i : Int) + j := by
    simp only [IntKind.wrap, e1, e3, Bool.false_and]
    simp; omega
  rw [e]
  have e4 : (2 : Int) ^ (min (Int.toNat 1) 64) = 2 := by decide
  rw [e4, Int.fdiv_eq_ediv_of_nonneg _ (by omega), wrap_id _ (by omega) (by omega)]
  omega

/-- Names of files as they lie. -/
def SameNames (cs : List CF) (fs : List DF) : Prop := cs.length = fs.length ∧ ∀ (i : Nat) (c : CF) (f : DF), cs[i]? = some c → fs[i]? = some f → c.1 = f.nm

theorem Search_spec (s : Sl) (cs : List CF) (fs : List DF) (nm : ByteArray) (hs : Sorted fs) (hn : SameNames cs fs) (hl : fs.length ≤ 64) : Ct Pr F_slices_BinarySearchFunc_L_device_file_device_file_string_ [s.v, .string nm, .func (.func F_device_Device_find_1) #[] #[]] (.tup [none, none]) [.int .i64, .bool] [Ar FILE s cs] emp
    (fun t Bs => t.1 = (findL fs nm.toList : Int) ∧ t.2.1 = thereL fs nm.toList ∧ Bs = [Ar FILE s cs]) := by
  refine spec2 c_slices_BinarySearchFunc_L_device_file_device_file_string_ fun B _ => ?_
  unfold slices_BinarySearchFunc_L_device_file_device_file_string_
  refine xlen s fun hn1 _ => ?_
  obtain ⟨hcl, hnm⟩ := hn
  refine xloop2 (fun n i j As => ∃ a b : Nat, i = (a : Int) ∧ j = (b : Int) ∧ n = b - a ∧ a ≤ b ∧ b ≤ fs.length ∧ (∀ t f, t < a → fs[t]? = some f → lt f.key nm.toList = true) ∧ (∀ t f, b ≤ t → fs[t]? = some f → lt f.key nm.toList = false) ∧ As = [Ar FILE s cs]) fs.length ⟨0, fs.length, rfl, by rw [← hcl, hn1], by omega, by omega, by omega, fun t f h => by omega, fun t f h hf => ?_, rfl⟩ ?_
  · have := (List.getElem?_eq_some_iff.1 hf).1; omega
  rintro n _ _ _ K ⟨a, b, rfl, rfl, rfl, hab, hb, hlo, hhi, rfl⟩ hK
  refine xif_dec (fun h => ?_) (fun h => ?_)
  · rw [mid_eq a b (by omega)]
    have hm1 : (a + b) / 2 < fs.length := by omega
    have hf := List.getElem?_eq_getElem (l := fs) hm1
    have hc := List.getElem?_eq_getElem (l := cs) (i := (a + b) / 2) (by omega)
    have hnm' := hnm _ _ _ hc hf
    refine xasrt (by decide) ?_
    refine xidxn (h1 := by omega) (h := fun _ _ => ?_)
    refine xgetE hc (h := ?_)
    refine xgetEj hc (h := ?_)
    refine xgetEj hc (h := ?_)
    refine xcl (find1_spec cs[(a + b) / 2] nm) rdb ?_
    rintro ⟨r, _⟩ _ ⟨hr, rfl⟩
    simp only at hr
    rw [hnm'] at hr
    subst hr
    refine app0 (ca1 (xjoin (xif_dec (fun g => ?_) (fun g => ?_))))
    · have hlt : lt fs[(a + b) / 2].key nm.toList = true := by
        unfold cmpL at g
        split at g
        · assumption
        · split at g <;> omega
      rw [wrap_succ _ (by omega)]
      refine hK (b - ((a + b) / 2 + 1)) _ _ _ (by omega) ⟨(a + b) / 2 + 1, b, rfl, rfl, rfl, by omega, hb, fun t f ht hft => ?_, hhi, rfl⟩
      rcases Nat.lt_or_ge t ((a + b) / 2) with h' | h'
      · exact lt_trans (hs.get h' hft hf) hlt
      · obtain rfl : t = (a + b) / 2 := by omega
        rw [hf] at hft; cases hft; exact hlt
    · have hge : lt fs[(a + b) / 2].key nm.toList = false := by
        cases hh : lt fs[(a + b) / 2].key nm.toList with
        | false => rfl
        | true => exact absurd (show cmpL _ _ < 0 by simp only [DF.key] at hh; simp [cmpL, hh]) g
      refine hK ((a + b) / 2 - a) _ _ _ (by omega) ⟨a, (a + b) / 2, rfl, rfl, rfl, by omega, by omega, hlo, fun t f ht hft => ?_, rfl⟩
      rcases Nat.lt_or_ge ((a + b) / 2) t with h' | h'
      · cases hh : lt f.key nm.toList with
        | false => rfl
        | true => have := lt_trans (hs.get h' hf hft) hh; rw [hge] at this; cases this
      · obtain rfl : t = (a + b) / 2 := by omega
        rw [hf] at hft; cases hft; exact hge
  · have hab' : a = b := by omega
    subst hab'
    have he : findL fs nm.toList = a := findL_eq hb hlo (fun f hf => hhi a f (Nat.le_refl _) hf)
    refine xjoin (xif_dec (fun g => ?_) (fun g => ?_))
    · have ha : a < fs.length := by omega
      have hf := List.getElem?_eq_getElem (l := fs) ha
      have hc := List.getElem?_eq_getElem (l := cs) (i := a) (by omega)
      have hnm' := hnm _ _ _ hc hf
      refine xidxn (h1 := by omega) (h := fun _ _ => ?_)
      refine xgetE hc (h := ?_)
      refine xgetEj hc (h := ?_)
      refine xgetEj hc (h := ?_)
      refine xcl (find1_spec cs[a] nm) rdb ?_
      rintro ⟨r, _⟩ _ ⟨hr, rfl⟩
      simp only at hr
      rw [hnm'] at hr
      refine app0 (ca1 (xret ⟨by rw [he], ?_, rfl⟩))
      show (r == 0) = _
      have hge := hhi a _ (Nat.le_refl _) hf
      unfold thereL
      rw [he, hf, hr]
      simp only [DF.key] at hge ⊢
      rw [Bool.eq_iff_iff]
      simp only [cmpL, hge, Bool.false_eq_true, if_false, beq_iff_eq]
      constructor
      · intro h; by_cases e : fs[a].nm.toList = nm.toList
        · exact e
        · rw [if_neg e] at h; cases h
      · intro h; rw [if_pos h]
    · refine xret ⟨by rw [he], ?_, rfl⟩
      unfold thereL
      rw [he, List.getElem?_eq_none (by omega)]

theorem overl (args : Array Value) (w : World) : (callFunc F_slices_overlaps_device_file_ args).run Pr w = ((Extern.SlicesOverlaps.overlaps #[T_L_device_file, T_L_device_file] #[T_bool] args).run Pr w).andThen fun v w' => .ok (.value v) w' :=
  run_callFunc_extern (fn := Go.Proofs.Tryz.f133) (by kernel_rfl) (by kernel_rfl) (by kernel_rfl) (by kernel_rfl) (by kernel_rfl) args w

theorem Delete_spec (s : Sl) (rs : List CF) (k : Nat) (hk : k < rs.length) (h63 : rs.length ≤ 9223372036854775807) : Ct Pr F_slices_Delete_L_device_file_device_file_ [s.v, .int .i64 (k : Int), .int .i64 ((k + 1 : Nat) : Int)] .one [.slice] [Ar FILE s rs] emp
    (fun t Bs => Bs = [Ar FILE t.1 (rs.eraseIdx k)]) := by
  refine spec1 c_slices_Delete_L_device_file_device_file_ fun B _ => ?_
  unfold slices_Delete_L_device_file_device_file_
  refine xlen s fun hl hc => ?_
  refine xslc (by omega) (by omega) (by omega) (by omega) ?_
  refine xiff (by simp; omega) (xdraw ?_)
  refine xslc (by omega) (by omega) (by omega) (by omega) ?_
  refine xslc (by omega) (by omega) (by omega) (by omega) ?_
  refine xars 0 fun zs _ hzl => ?_
  obtain ⟨p, n, c⟩ := s
  simp only at hl hc hzl
  refine xshift k (rs.take k) (rs.drop k ++ zs) (by rw [← List.append_assoc, List.take_append_drop]) (by simp; omega) ?_
  have e1 : (⟨p, n, c⟩ : Sl).cut (Int.toNat 0) (Int.toNat (k : Int)) (Int.toNat ((c : Nat) : Int)) 3 = ⟨p, k, c⟩ := cut_zero ⟨p, n, c⟩ k 3
  rw [e1]
  show Ent B (Ars FILE ⟨p, k, c⟩ (rs.take k) (rs.drop k ++ zs) :: []) _
  refine xapp_in (ys := rs.drop (k + 1)) (fun g hg => ?_) (by simp; omega) (by omega) (h := ?_)
  · have h1 : Ars FILE ⟨p, n, c⟩ rs zs g := hg.shift (by rw [← List.append_assoc, List.take_append_drop]) hl
    have h2 := h1.read.cut (k + 1) n c (by omega) hc (by omega)
    rw [List.take_of_length_le (by omega)] at h2
    exact h2
  have e2 : k + ((⟨p, n, c⟩ : Sl).cut (Int.toNat ((k + 1 : Nat) : Int)) (Int.toNat (n : Int)) (Int.toNat (c : Int)) 3).n = n - 1 := by
    show k + ((n : Int).toNat - ((k + 1 : Nat) : Int).toNat) = n - 1
    omega
  rw [e2]
  refine xslc (by simp) (by simp only; omega) (by simp only; omega) (by simp) ?_
  have hlen : (rs.take k ++ rs.drop (k + 1)).length = n - 1 := by simp; omega
  have e3 : Int.toNat (((n - 1 : Nat)) : Int) = (rs.take k ++ rs.drop (k + 1)).length := by rw [hlen]; rfl
  show Ent B _ (XClear Pr T_L_device_file T___ (Sl.cut ⟨p, n - 1, c⟩ (Int.toNat ((n - 1 : Nat) : Int)) (Int.toNat (n : Int)) (Int.toNat (c : Int)) 3).v _)
  rw [e3]
  refine xclr (by rw [hlen]; simp only [Int.toNat_natCast]; omega) (by rw [hlen]; simp only [Int.toNat_natCast]; omega) (by rw [hlen]; simp only [Int.toNat_natCast, List.length_drop, List.length_append]; omega) (by simp only; omega) (h := ?_)
  refine xret ?_
  rw [List.eraseIdx_eq_take_drop_succ]




theorem Insert_spec (s : Sl) (xs : List CF) (k : Nat) (bv : Nat) (x : CF) (hk : k ≤ xs.length) (hl : xs.length ≤ 1000) : Ct Pr F_slices_Insert_L_device_file_device_file_ [s.v, .int .i64 (k : Int), .slice (some ⟨bv, 0, none⟩) 1 1] .one [.slice] [Ar FILE s xs, BlkS bv [.string x.1, x.2.1.v, .int .i64 x.2.2]] emp
    (fun t Bs => Bs = [Ar FILE t.1 (xs.take k ++ x :: xs.drop k)]) := by
  refine spec1 (c_slices_Insert_L_device_file_device_file_ (v := ⟨some ⟨bv, 0, none⟩, 1, 1⟩)) fun B _ => ?_
  unfold slices_Insert_L_device_file_device_file_
  refine xlen s fun hn hc => ?_
  have hv : ∀ {As F : List HP} {φ : WP} [p : Find (BlkS bv [.string x.1, x.2.1.v, .int .i64 x.2.2]) As F], Ent B (Ar FILE ⟨some ⟨bv, 0, none⟩, 1, 1⟩ [x] :: F) φ → Ent B As φ := fun {As F φ p} h =>
    Ent.perm p.perm (xclose (fun _ hg => star_imp (fun g hg => ⟨[], blk_ar [x] 1 rfl (by simp [flat, FILE]) hg.blk⟩) hg) h)
  refine xslc (by omega) (by omega) (by omega) (by omega) (xiff rfl (xif (fun h => ?_) (fun h => ?_)))
  · have hkn : k = xs.length := by have : (k : Int) = (s.n : Int) := by simpa using h
                                   omega
    subst hkn
    refine hv ?_
    refine xapp (y := ⟨some ⟨bv, 0, none⟩, 1, 1⟩) (hb := by simp; omega) (h := fun s' => ?_)
    refine xdrop 0 (xret ?_)
    rw [List.take_length, List.drop_length]
  have hkn : k < xs.length := by have : ¬ (k : Int) = (s.n : Int) := by simpa using h
                                 omega
  have e1 : IntKind.i64.wrap ((s.n : Int) + ((1 : Nat) : Int)) = ((xs.length + 1 : Nat) : Int) := by rw [wrap_id _ (by omega) (by omega)]; omega
  have e2 : IntKind.i64.wrap ((k : Int) + ((1 : Nat) : Int)) = ((k + 1 : Nat) : Int) := by rw [wrap_id _ (by omega) (by omega)]; omega
  rw [e1]
  refine xif_dec (fun h => ?_) (fun h => ?_)
  · -- a new array
    refine xslc0 rfl (by omega) (by omega) ?_
    rw [Int.toNat_natCast]
    have e3 : IntKind.i64.wrap (((xs.length + 1 : Nat) : Int) - (k : Int)) = ((xs.length + 1 - k : Nat) : Int) := by rw [wrap_id _ (by omega) (by omega)]; omega
    rw [e3]
    refine xappz (k0 := .i64) (E := FILE) (s := ⟨s.p, k, s.c⟩) (xs := xs.take k) (by kernel_rfl) (fun w hw => ?_) (by omega) (by simp only; omega) (by simp only; omega) (h := fun s4 h4 h4c => ?_)
    · obtain ⟨g, hg, hs⟩ := hw.head
      have := (hg.read.mono hs).cut 0 k s.c (Nat.zero_le _) (by omega) hk
      rw [cut_zero, List.drop_zero] at this
      exact this
    simp only at h4
    have h4' : s4.n = xs.length + 1 := by omega
    refine xslc (by omega) (by omega) (by omega) (by omega) ?_
    simp only [Int.toNat_natCast]
    refine xfront 2 (hv (xfront 1 (xars 0 fun zs hz1 hz2 => ?_)))
    have hlt : (xs.take k).length = k := by simp; omega
    have hlx : (xs.take k ++ List.replicate (xs.length + 1 - k) FILE.zero).length = xs.length + 1 := by simp; omega
    refine xcopy (y := ⟨some ⟨bv, 0, none⟩, 1, 1⟩) (ys := [x]) (fun w hw => ?_) (xs.take k ++ [x] ++ List.replicate (xs.length - k) FILE.zero) zs (hrm := by omega) (hlk := by simp; omega) (hl := by simp; omega) (he := ?_) (h := fun n => ?_)
    · obtain ⟨g, hg, hs⟩ := hw.tail.head
      exact hg.read.mono hs
    · have hm : min [x].length (s4.n - k) = 1 := by simp; omega
      have e : List.replicate (xs.length + 1 - k) FILE.zero = FILE.zero :: List.replicate (xs.length - k) FILE.zero := by
        rw [show xs.length + 1 - k = (xs.length - k) + 1 by omega]; rfl
      have t1 : (xs.take k ++ List.replicate (xs.length + 1 - k) FILE.zero ++ zs).take k = xs.take k := by rw [List.append_assoc, List.take_left' hlt]
      have t2 : (xs.take k ++ List.replicate (xs.length + 1 - k) FILE.zero ++ zs).drop (k + 1) = List.replicate (xs.length - k) FILE.zero ++ zs := by
        have : xs.take k ++ List.replicate (xs.length + 1 - k) FILE.zero ++ zs = (xs.take k ++ [FILE.zero]) ++ (List.replicate (xs.length - k) FILE.zero ++ zs) := by rw [e]; simp
        rw [this, List.drop_left' (by rw [List.length_append, hlt]; rfl)]
      rw [hm, t1, t2]
      simp
    refine xdraw ?_
    rw [e2]
    refine xslc (by omega) (by omega) (by omega) (by omega) ?_
    refine xslc (by omega) (by omega) (by omega) (by omega) ?_
    simp only [Int.toNat_natCast]
    have hld : (xs.drop k).length = xs.length - k := by simp
    refine xcopy (y := s.cut k s.n s.c 3) (ys := xs.drop k) (fun w hw => ?_) (xs.take k ++ x :: xs.drop k) zs (hrm := by omega) (hlk := by simp only [List.length_append, List.length_take, List.length_drop, List.length_cons, List.length_nil, List.length_replicate]; omega) (hl := by simp only [List.length_append, List.length_take, List.length_drop, List.length_cons, List.length_nil, List.length_replicate]; omega) (he := ?_) (h := fun n => ?_)
    · obtain ⟨g, hg, hs⟩ := hw.tail.tail.head
      have := (hg.read.mono hs).cut k s.n s.c (by omega) hc (by omega)
      rw [← hn, List.take_length] at this
      rw [← hn]
      exact this
    · have hm : min (xs.drop k).length (s4.n - (k + 1)) = xs.length - k := by rw [hld]; omega
      have hl2 : (xs.take k ++ [x]).length = k + 1 := by rw [List.length_append, hlt]; rfl
      have t1 : (xs.take k ++ [x] ++ List.replicate (xs.length - k) FILE.zero ++ zs).take (k + 1) = xs.take k ++ [x] := by rw [List.append_assoc, List.take_left' hl2]
      have t2 : (xs.take k ++ [x] ++ List.replicate (xs.length - k) FILE.zero ++ zs).drop (k + 1 + (xs.length - k)) = zs := by
        rw [List.drop_left' (by rw [List.length_append, hl2, List.length_replicate])]
      rw [hm, t1, t2, List.take_of_length_le (l := xs.drop k) (by omega)]
      simp
    exact xar (xdrop 1 (xdrop 1 (xret rfl)))
  · -- in place
    have hroom : xs.length + 1 ≤ s.c := by omega
    refine xars 0 fun zs hz1 hz2 => ?_
    have hzl : zs ≠ [] := fun e => by subst e; simp at hz2; omega
    obtain ⟨z0, zd, rfl⟩ := List.exists_cons_of_ne_nil hzl
    refine xshift (xs.length + 1) (xs ++ [z0]) zd (by simp) (by simp) ?_
    refine xslc0 rfl (by omega) (by omega) ?_
    simp only [Int.toNat_natCast]
    rw [e2]
    refine xslc (by omega) (by first | omega | (dsimp only; omega)) (by first | omega | (dsimp only; omega)) (by first | omega | (dsimp only; omega)) ?_
    simp only [Int.toNat_natCast]
    refine xovl (e := T_device_file) overl (by kernel_rfl) (by kernel_rfl) (by simp) (by simp; omega) (by omega) (xift rfl (xdraw ?_))
    refine xslc (by omega) (by first | omega | (dsimp only; omega)) (by first | omega | (dsimp only; omega)) (by first | omega | (dsimp only; omega)) ?_
    refine xslc (by omega) (by first | omega | (dsimp only; omega)) (by first | omega | (dsimp only; omega)) (by first | omega | (dsimp only; omega)) ?_
    simp only [Int.toNat_natCast]
    have hU : (xs ++ [z0]).length = xs.length + 1 := by simp
    have hUd : (xs ++ [z0]).drop k = xs.drop k ++ [z0] := by rw [List.drop_append_of_le_length (by omega)]
    have hld : (xs.drop k).length = xs.length - k := by simp
    have hUt : ((xs ++ [z0]).take (k + 1)).length = k + 1 := by simp; omega
    refine xcopy (s := ⟨s.p, xs.length + 1, s.c⟩) (y := (⟨s.p, xs.length + 1, s.c⟩ : Sl).cut k (xs.length + 1) s.c 3) (ys := (xs ++ [z0]).drop k) (fun w hw => ?_) ((xs ++ [z0]).take (k + 1) ++ xs.drop k) zd (hrm := by omega) (hlk := by simp; omega) (hl := by simp; omega) (he := ?_) (h := fun n => ?_)
    · obtain ⟨g, hg, hs⟩ := hw.head
      have := (hg.read.mono hs).cut k (xs.length + 1) s.c (by omega) hroom (by omega)
      rw [List.take_of_length_le (by omega)] at this
      exact this
    · have hm : min ((xs ++ [z0]).drop k).length (xs.length + 1 - (k + 1)) = xs.length - k := by rw [hUd, List.length_append, hld]; simp only [List.length_singleton]; omega
      have t1 : (xs ++ [z0] ++ zd).take (k + 1) = (xs ++ [z0]).take (k + 1) := by rw [List.take_append_of_le_length (by rw [hU]; omega)]
      have t2 : (xs ++ [z0] ++ zd).drop (k + 1 + (xs.length - k)) = zd := by rw [List.drop_left' (by rw [hU]; omega)]
      have t3 : ((xs ++ [z0]).drop k).take (xs.length - k) = xs.drop k := by rw [hUd, List.take_left' hld]
      rw [hm, t1, t2, t3]
    refine xfront 1 (hv (xfront 1 ?_))
    refine xslc (by omega) (by first | omega | (dsimp only; omega)) (by first | omega | (dsimp only; omega)) (by first | omega | (dsimp only; omega)) ?_
    simp only [Int.toNat_natCast]
    refine xcopy (s := ⟨s.p, xs.length + 1, s.c⟩) (y := ⟨some ⟨bv, 0, none⟩, 1, 1⟩) (ys := [x]) (fun w hw => ?_) (xs.take k ++ x :: xs.drop k) zd (hrm := by omega) (hlk := by simp; omega) (hl := by simp; omega) (he := ?_) (h := fun n => ?_)
    · obtain ⟨g, hg, hs⟩ := hw.tail.head
      exact hg.read.mono hs
    · have hm : min [x].length (xs.length + 1 - k) = 1 := by simp; omega
      have t1 : ((xs ++ [z0]).take (k + 1) ++ xs.drop k ++ zd).take k = xs.take k := by
        rw [List.append_assoc, List.take_append_of_le_length (by rw [hUt]; omega), List.take_take, Nat.min_eq_left (by omega), List.take_append_of_le_length (by omega)]
      have t2 : ((xs ++ [z0]).take (k + 1) ++ xs.drop k ++ zd).drop (k + 1) = xs.drop k ++ zd := by rw [List.append_assoc, List.drop_left' hUt]
      rw [hm, t1, t2]
      simp
    exact xar (xdrop 1 (xret rfl))

end Go.Cx
