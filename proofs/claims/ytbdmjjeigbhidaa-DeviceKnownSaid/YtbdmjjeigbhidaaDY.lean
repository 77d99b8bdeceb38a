/-
  DeviceKnown: the whole.
-/
import Derived.Test.YtbdmjjeigbhidaaDX
namespace Go.Cx
open Go Go.Cf
set_option linter.unusedVariables false
variable {B : Base} {As : List HP}

theorem xrd {rd : HP} {F G : List HP} {l : Sl} {ops : List DOp} [f : Find (OOps l ops) F G] : Rds B F (ROps l ops) := rdb

set_option maxHeartbeats 1000000 in
theorem DeviceKnown_spec : Ct Pr F_law12_DeviceKnown [] .one [.bool] [] emp (fun t Bs => t.1 = true ∧ Bs = []) := by
  refine spec1 c_law12_DeviceKnown fun B _ => ?_
  unfold law12_DeviceKnown
  have z : ∀ x : Int, i64d x = true → i64 x := fun x h => i64_of h
  refine xasrt (by decide) (xnew fun b => ?_)
  refine xfold1 (Q := Ar Cf.ST ⟨some ⟨b, 0, none⟩, 7, 7⟩ names7) 0 (fun g hg => ⟨[], blk_ar names7 7 rfl rfl hg⟩) ?_
  refine xnone OP ?_
  refine xfold1 (Q := OOps ⟨none, 0, 0⟩ []) 0 (fun g hg => ⟨[], g, fun _ => none, hg, star_in trivial, fun _ => .inr rfl, Sub.refl _, fun _ _ e => (by cases e)⟩) ?_
  have h7 : names7.length = 7 := rfl
  have idx : ∀ {k : Nat} {K : Addr → WP} {As : List HP} [RdA B As ⟨some ⟨b, 0, none⟩, 7, 7⟩ Cf.ST names7], k < 7 → Ent B As (K ((⟨some ⟨b, 0, none⟩, 7, 7⟩ : Sl).at 1 k)) → Ent B As (XIdx (some ⟨b, 0, none⟩) 7 (k : Int) 1 K) := fun hk h =>
    xidxn (s := ⟨some ⟨b, 0, none⟩, 7, 7⟩) (h1 := by rw [h7]; exact hk) (h := fun _ _ => h)
  refine xloop2 (fun n l i As => ∃ (k : Nat) (ops : List DOp), i = (k : Int) ∧ n = 7 - k ∧ k ≤ 7 ∧ ops.length = 4 * k ∧ As = [OOps l ops, Ar Cf.ST ⟨some ⟨b, 0, none⟩, 7, 7⟩ names7]) 7 ⟨0, [], rfl, rfl, by omega, rfl, rfl⟩ ?_
  rintro n l _ _ K ⟨k, ops, rfl, rfl, hk, hl, rfl⟩ hK
  refine xif_dec (fun h => ?_) (fun h => ?_)
  · have hkl : k < 7 := by omega
    have hx := List.getElem?_eq_getElem (l := names7) (i := k) (by rw [h7]; exact hkl)
    generalize names7[k] = t at hx
    have hu : IntKind.u8.wrap (k : Int) = ((UInt8.ofNat k).toNat : Int) := by
      have : ∀ k : Nat, k < 7 → IntKind.u8.wrap (k : Int) = ((UInt8.ofNat k).toNat : Int) := by decide
      exact this k hkl
    refine xdraw (xjoin1 (fun l1 As' => As' = [OOps l1 (ops ++ ops4 t (UInt8.ofNat k)), Ar Cf.ST ⟨some ⟨b, 0, none⟩, 7, 7⟩ names7]) ?_ ?_)
    · intro J hJ
      rw [hu]
      iterate 4 (refine idx hkl (xgetE hx (h := ?_)))
      have fin : ∀ b1 b2 b3 : Nat, Ent B [Ar OP ⟨some ⟨b3, 0, none⟩, 4, 4⟩ (cs4 t ⟨some ⟨b1, 0, none⟩, 3, 3⟩ ⟨some ⟨b2, 0, none⟩, 1, 1⟩), Blk b1 [.int .u8 1, .int .u8 2, .int .u8 (UInt8.ofNat k).toNat], Blk b2 [.int .u8 9], OOps l ops, Ar Cf.ST ⟨some ⟨b, 0, none⟩, 7, 7⟩ names7] (XApp Pr T_L_outstationlaw12_Op T_L_outstationlaw12_Op T_L_outstationlaw12_Op l.v (.slice (some ⟨b3, 0, none⟩) 4 4) fun s => J s) := by
        intro b1 b2 b3
        refine xfold1 (Q := Ar U8 ⟨some ⟨b1, 0, none⟩, 3, 3⟩ [1, 2, UInt8.ofNat k]) 1 (fun g hg => ⟨[], blk_ar [1, 2, UInt8.ofNat k] 3 rfl rfl hg⟩) ?_
        refine xfold1 (Q := Ar U8 ⟨some ⟨b2, 0, none⟩, 1, 1⟩ [9]) 2 (fun g hg => ⟨[], blk_ar [9] 1 rfl rfl hg⟩) ?_
        refine xfold [Ar U8 ⟨some ⟨b1, 0, none⟩, 3, 3⟩ [1, 2, UInt8.ofNat k], Ar U8 ⟨some ⟨b2, 0, none⟩, 1, 1⟩ [9]] (Each OpO (cs4 t ⟨some ⟨b1, 0, none⟩, 3, 3⟩ ⟨some ⟨b2, 0, none⟩, 1, 1⟩) (ops4 t (UInt8.ofNat k))) (fun g hg => each4 hg) ?_
        refine xmore (ops := ops) (y := ⟨some ⟨b3, 0, none⟩, 4, 4⟩) (os' := cs4 t ⟨some ⟨b1, 0, none⟩, 3, 3⟩ ⟨some ⟨b2, 0, none⟩, 1, 1⟩) (ops' := ops4 t (UInt8.ofNat k)) (hb := ?_) (h := fun l' => hJ _ _ rfl)
        have : (ops4 t (UInt8.ofNat k)).length = 4 := rfl
        rw [this]; omega
      refine xand (xnew fun b1 => xnew fun b2 => xnew fun b3 => ?_) (xnew fun b2 => xnew fun b1 => xnew fun b3 => ?_)
      all_goals
        refine xfold1 (Q := Ar OP ⟨some ⟨b3, 0, none⟩, 4, 4⟩ (cs4 t ⟨some ⟨b1, 0, none⟩, 3, 3⟩ ⟨some ⟨b2, 0, none⟩, 1, 1⟩)) 0 (fun g hg => ⟨[], blk_ar (cs4 t ⟨some ⟨b1, 0, none⟩, 3, 3⟩ ⟨some ⟨b2, 0, none⟩, 1, 1⟩) 4 rfl rfl hg⟩) ?_
        exact xuse' (fin b1 b2 b3)
    · rintro l1 _ rfl
      rw [wrap_succ k (by omega)]
      refine hK (7 - (k + 1)) _ _ _ (by omega) ⟨k + 1, _, rfl, rfl, by omega, ?_, rfl⟩
      rw [List.length_append, hl]
      show 4 * k + 4 = _
      omega
  have hk7 : k = 7 := by omega
  subst hk7
  refine xloop2 (fun n l i As => ∃ (k : Nat) (ops : List DOp), i = (k : Int) - 1 ∧ n = 7 - k ∧ k ≤ 7 ∧ ops.length = 28 + 2 * k ∧ As = [OOps l ops, Ar Cf.ST ⟨some ⟨b, 0, none⟩, 7, 7⟩ names7]) 7 ⟨0, ops, rfl, rfl, by omega, hl, rfl⟩ ?_
  clear hK hl h K
  rintro n l2 _ _ K ⟨k, ops, rfl, rfl, hk, hl, rfl⟩ hK
  refine xif_dec (fun h => ?_) (fun h => ?_)
  · refine xnew fun b7 => ?_
    have hn : i64 ((k : Int) - 1) := ⟨by omega, by omega⟩
    refine xfold1 (Q := Ar OP ⟨some ⟨b7, 0, none⟩, 2, 2⟩ (cs2 ((k : Int) - 1))) 0 (fun g hg => ⟨[], blk_ar (cs2 ((k : Int) - 1)) 2 rfl rfl hg⟩) ?_
    refine xadd (A := Each OpO (cs2 ((k : Int) - 1)) (ops2 ((k : Int) - 1))) (each2 hn _) ?_
    refine xmore (ops := ops) (y := ⟨some ⟨b7, 0, none⟩, 2, 2⟩) (os' := cs2 ((k : Int) - 1)) (ops' := ops2 ((k : Int) - 1)) (hb := ?_) (h := fun l' => ?_)
    · have : (ops2 ((k : Int) - 1)).length = 2 := rfl
      rw [this]; omega
    have e : IntKind.i64.wrap ((k : Int) - 1 + 1) = ((k + 1 : Nat) : Int) - 1 := by rw [wrap_id _ (by omega) (by omega)]; omega
    rw [e]
    refine hK (7 - (k + 1)) _ _ _ (by omega) ⟨k + 1, _, rfl, rfl, by omega, ?_, rfl⟩
    rw [List.length_append, hl]
    show 28 + 2 * k + 2 = _
    omega
  have hk7 : k = 7 := by omega
  subst hk7
  refine xloop2 (fun n l i As => ∃ (k : Nat) (ops : List DOp), i = (k : Int) ∧ n = 7 - k ∧ k ≤ 7 ∧ ops.length = 42 + 3 * k ∧ As = [OOps l ops, Ar Cf.ST ⟨some ⟨b, 0, none⟩, 7, 7⟩ names7]) 7 ⟨0, ops, rfl, rfl, by omega, hl, rfl⟩ ?_
  clear hK hl h K
  rintro n l3 _ _ K ⟨k, ops, rfl, rfl, hk, hl, rfl⟩ hK
  refine xif_dec (fun h => ?_) (fun h => ?_)
  · have hkl : k < 7 := by omega
    have hx := List.getElem?_eq_getElem (l := names7) (i := k) (by rw [h7]; exact hkl)
    have hy := List.getElem?_eq_getElem (l := names7) (i := 6 - k) (by rw [h7]; omega)
    generalize names7[k] = t at hx
    generalize names7[6 - k] = u at hy
    have e : IntKind.i64.wrap (IntKind.i64.wrap ((7 : Int) - 1) - (k : Int)) = ((6 - k : Nat) : Int) := by
      rw [wrap_id ((7 : Int) - 1) (by omega) (by omega), wrap_id _ (by omega) (by omega)]; omega
    rw [e]
    refine xdraw (idx hkl (xgetE hx (h := ?_)))
    refine idx hkl (xgetE hx (h := ?_))
    refine idx (by omega) (xgetE hy (h := xnew fun b8 => ?_))
    refine xfold1 (Q := Ar OP ⟨some ⟨b8, 0, none⟩, 3, 3⟩ (cs3 t u)) 0 (fun g hg => ⟨[], blk_ar (cs3 t u) 3 rfl rfl hg⟩) ?_
    refine xadd (A := Each OpO (cs3 t u) (ops3 t u)) (each3 _) ?_
    refine xmore (ops := ops) (y := ⟨some ⟨b8, 0, none⟩, 3, 3⟩) (os' := cs3 t u) (ops' := ops3 t u) (hb := ?_) (h := fun l' => ?_)
    · have : (ops3 t u).length = 3 := rfl
      rw [this]; omega
    rw [wrap_succ k (by omega)]
    refine hK (7 - (k + 1)) _ _ _ (by omega) ⟨k + 1, _, rfl, rfl, by omega, ?_, rfl⟩
    rw [List.length_append, hl]
    show 42 + 3 * k + 3 = _
    omega
  have hk7 : k = 7 := by omega
  subst hk7
  clear idx hK hl h K
  refine xdrop 1 (xnew fun b9 => ?_)
  refine xfold1 (Q := Ar I64 ⟨some ⟨b9, 0, none⟩, 12, 12⟩ endsD) 0 (fun g hg => ⟨[], blk_ar endsD 12 rfl rfl hg⟩) ?_
  refine xfront 1 ?_
  have h12 : endsD.length = 12 := rfl
  refine xloop1 (fun n i As => ∃ k : Nat, i = (k : Int) ∧ n = 12 - k ∧ k ≤ 12 ∧ As = [OOps l3 ops, Ar I64 ⟨some ⟨b9, 0, none⟩, 12, 12⟩ endsD]) 12 ⟨0, rfl, rfl, by omega, rfl⟩ ?_
  rintro n _ _ K ⟨k, rfl, rfl, hk, rfl⟩ hK
  refine xif_dec (fun h => ?_) (fun h => ?_)
  · have hkl : k < endsD.length := by rw [h12]; omega
    have hx := List.getElem?_eq_getElem hkl
    have hn := ends_i64 _ (List.getElem_mem hkl)
    generalize endsD[k] = n at hx hn
    have idx : ∀ {K : Addr → WP} {As : List HP} [RdA B As ⟨some ⟨b9, 0, none⟩, 12, 12⟩ I64 endsD], Ent B As (K ((⟨some ⟨b9, 0, none⟩, 12, 12⟩ : Sl).at 1 k)) → Ent B As (XIdx (some ⟨b9, 0, none⟩) 12 (k : Int) 1 K) := fun h =>
      xidxn (s := ⟨some ⟨b9, 0, none⟩, 12, 12⟩) (h1 := hkl) (h := fun _ _ => h)
    refine xdraw (xjoin1 (fun m As' => As' = [OOps m (ops14 n), OOps l3 ops, Ar I64 ⟨some ⟨b9, 0, none⟩, 12, 12⟩ endsD]) ?_ ?_)
    · intro J hJ
      iterate 2 (refine idx (xgetE hx (h := ?_)))
      have fin : ∀ b1 b2 b4 : Nat, Ent B [Ar OP ⟨some ⟨b4, 0, none⟩, 14, 14⟩ (cs14 n ⟨some ⟨b1, 0, none⟩, 2, 2⟩ ⟨some ⟨b2, 0, none⟩, 2, 2⟩), Blk b1 [.int .u8 1, .int .u8 2], Blk b2 [.int .u8 3, .int .u8 4], OOps l3 ops, Ar I64 ⟨some ⟨b9, 0, none⟩, 12, 12⟩ endsD] (J ⟨some ⟨b4, 0, none⟩, 14, 14⟩) := by
        intro b1 b2 b4
        refine xfold1 (Q := Ar U8 ⟨some ⟨b1, 0, none⟩, 2, 2⟩ [1, 2]) 1 (fun g hg => ⟨[], blk_ar [1, 2] 2 rfl rfl hg⟩) ?_
        refine xfold1 (Q := Ar U8 ⟨some ⟨b2, 0, none⟩, 2, 2⟩ [3, 4]) 2 (fun g hg => ⟨[], blk_ar [3, 4] 2 rfl rfl hg⟩) ?_
        exact xfold [Ar OP ⟨some ⟨b4, 0, none⟩, 14, 14⟩ (cs14 n ⟨some ⟨b1, 0, none⟩, 2, 2⟩ ⟨some ⟨b2, 0, none⟩, 2, 2⟩), Ar U8 ⟨some ⟨b1, 0, none⟩, 2, 2⟩ [1, 2], Ar U8 ⟨some ⟨b2, 0, none⟩, 2, 2⟩ [3, 4]] (OOps ⟨some ⟨b4, 0, none⟩, 14, 14⟩ (ops14 n)) (fun g hg => oops_mk (fun g hg => each14 hn hg) hg) (hJ _ _ rfl)
      refine xand (xnew fun b1 => xnew fun b2 => xnew fun b4 => ?_) (xnew fun b2 => xnew fun b1 => xnew fun b4 => ?_)
      all_goals
        refine xfold1 (Q := Ar OP ⟨some ⟨b4, 0, none⟩, 14, 14⟩ (cs14 n ⟨some ⟨b1, 0, none⟩, 2, 2⟩ ⟨some ⟨b2, 0, none⟩, 2, 2⟩)) 0 (fun g hg => ⟨[], blk_ar (cs14 n ⟨some ⟨b1, 0, none⟩, 2, 2⟩ ⟨some ⟨b2, 0, none⟩, 2, 2⟩) 14 rfl rfl hg⟩) ?_
        exact xuse' (fin b1 b2 b4)
    · rintro m _ rfl
      refine idx (xgetE hx (h := ?_))
      refine xcl (DeviceRuns_spec n l3 ops hn) rdb ?_
      rintro ⟨c, _⟩ _ ⟨hc, rfl⟩
      obtain rfl : c = true := hc
      refine app0 (ca1 (xjoin (xiff rfl ?_)))
      refine xcl (DeviceRuns_spec 20 m (ops14 n) (z _ rfl)) rdb ?_
      rintro ⟨c, _⟩ _ ⟨hc, rfl⟩
      obtain rfl : c = true := hc
      refine app0 (ca1 (xjoin (xiff rfl ?_)))
      refine idx (xgetE hx (h := ?_))
      refine xcl (DeviceFails_spec m (ops14 n) n hn) rdb ?_
      rintro ⟨c, _⟩ _ ⟨hc, rfl⟩
      obtain rfl : c = true := hc
      refine app0 (ca1 (xjoin (xiff rfl ?_)))
      refine idx (xgetE hx (h := ?_))
      refine xcl (DeviceRoom_spec n l3 ops hn) rdb ?_
      rintro ⟨c, _⟩ _ ⟨hc, rfl⟩
      obtain rfl : c = true := hc
      refine app0 (ca1 (xjoin (xiff rfl ?_)))
      refine idx (xgetE hx (h := ?_))
      refine xcl (DeviceNews_spec n nA) rdb ?_
      rintro ⟨c, _⟩ _ ⟨hc, rfl⟩
      obtain rfl : c = true := hc
      refine app0 (ca1 ?_)
      refine xjoin1 (fun x As' => x = false ∧ As' = [OOps m (ops14 n), OOps l3 ops, Ar I64 ⟨some ⟨b9, 0, none⟩, 12, 12⟩ endsD]) ?_ ?_
      · intro J hJ
        refine xiff rfl (xnew fun b16 => xnew fun b17 => xnew fun b18 => xnew fun b19 => xnew fun b20 => ?_)
        refine xfold1 (Q := Ar BL ⟨some ⟨b20, 0, none⟩, 1, 1⟩ [true]) 0 (fun g hg => ⟨[], blk_ar [true] 1 rfl rfl hg⟩) ?_
        refine xfold1 (Q := Ar SL ⟨some ⟨b19, 0, none⟩, 3, 3⟩ [⟨some ⟨b16, 0, none⟩, 1, 1⟩, ⟨some ⟨b17, 0, none⟩, 2, 2⟩, ⟨some ⟨b18, 0, none⟩, 1, 1⟩]) 1 (fun g hg => ⟨[], blk_ar ([⟨some ⟨b16, 0, none⟩, 1, 1⟩, ⟨some ⟨b17, 0, none⟩, 2, 2⟩, ⟨some ⟨b18, 0, none⟩, 1, 1⟩] : List Sl) 3 rfl rfl hg⟩) ?_
        refine xfold [Blk b16 [.int .u8 1], Blk b17 [.int .u8 2, .int .u8 3], Blk b18 [.int .u8 4]] (Each (Ar U8) [⟨some ⟨b16, 0, none⟩, 1, 1⟩, ⟨some ⟨b17, 0, none⟩, 2, 2⟩, ⟨some ⟨b18, 0, none⟩, 1, 1⟩] [[1], [2, 3], [4]]) (fun g hg => ?_) ?_
        · refine each_take (fun g hg => ⟨[], blk_ar [1] 1 rfl rfl hg⟩) ?_ hg
          refine fun g => each_take (fun g hg => ⟨[], blk_ar [2, 3] 2 rfl rfl hg⟩) ?_
          refine fun g => each_take (fun g hg => ⟨[], blk_ar [4] 1 rfl rfl hg⟩) ?_
          exact fun _ _ => trivial
        refine idx (xgetE hx (h := ?_))
        refine xcl (DeviceLasts_spec ⟨some ⟨b19, 0, none⟩, 3, 3⟩ [[1], [2, 3], [4]] ⟨some ⟨b20, 0, none⟩, 1, 1⟩ [true] 9 n (z _ rfl)) rdb ?_
        rintro ⟨c, _⟩ _ ⟨hc, rfl⟩
        obtain rfl : c = true := hc
        exact app0 (ca1 (xuse [OOps m (ops14 n), OOps l3 ops, Ar I64 ⟨some ⟨b9, 0, none⟩, 12, 12⟩ endsD] (hJ _ _ ⟨rfl, rfl⟩)))
      rintro _ _ ⟨rfl, rfl⟩
      refine xjoin (xiff rfl ?_)
      refine idx (xgetE hx (h := ?_))
      refine xcl (DeviceRenamed_spec m (ops14 n) nB nC n) rdb ?_
      rintro ⟨c, _⟩ _ ⟨hc, rfl⟩
      obtain rfl : c = true := hc
      refine app0 (ca1 (xiff rfl ?_))
      rw [wrap_succ k (by omega)]
      exact xuse [OOps l3 ops, Ar I64 ⟨some ⟨b9, 0, none⟩, 12, 12⟩ endsD] (hK (12 - (k + 1)) _ _ (by omega) ⟨k + 1, rfl, rfl, by omega, rfl⟩)
  refine xkeep (l := []) (xnew fun b21 => xnew fun b22 => xnew fun b23 => xnew fun b24 => ?_)
  refine xfold1 (Q := Ar OP ⟨some ⟨b24, 0, none⟩, 8, 8⟩ (cs8 ⟨some ⟨b21, 0, none⟩, 2, 2⟩ ⟨some ⟨b22, 0, none⟩, 2, 2⟩ ⟨some ⟨b23, 0, none⟩, 1, 1⟩)) 0 (fun g hg => ⟨[], blk_ar (cs8 ⟨some ⟨b21, 0, none⟩, 2, 2⟩ ⟨some ⟨b22, 0, none⟩, 2, 2⟩ ⟨some ⟨b23, 0, none⟩, 1, 1⟩) 8 rfl rfl hg⟩) ?_
  refine xfold1 (Q := Ar U8 ⟨some ⟨b21, 0, none⟩, 2, 2⟩ [1, 2]) 3 (fun g hg => ⟨[], blk_ar [1, 2] 2 rfl rfl hg⟩) ?_
  refine xfold1 (Q := Ar U8 ⟨some ⟨b22, 0, none⟩, 2, 2⟩ [3, 4]) 3 (fun g hg => ⟨[], blk_ar [3, 4] 2 rfl rfl hg⟩) ?_
  refine xfold1 (Q := Ar U8 ⟨some ⟨b23, 0, none⟩, 1, 1⟩ [5]) 3 (fun g hg => ⟨[], blk_ar [5] 1 rfl rfl hg⟩) ?_
  refine xfold [Ar OP ⟨some ⟨b24, 0, none⟩, 8, 8⟩ (cs8 ⟨some ⟨b21, 0, none⟩, 2, 2⟩ ⟨some ⟨b22, 0, none⟩, 2, 2⟩ ⟨some ⟨b23, 0, none⟩, 1, 1⟩), Ar U8 ⟨some ⟨b21, 0, none⟩, 2, 2⟩ [1, 2], Ar U8 ⟨some ⟨b22, 0, none⟩, 2, 2⟩ [3, 4], Ar U8 ⟨some ⟨b23, 0, none⟩, 1, 1⟩ [5]] (OOps ⟨some ⟨b24, 0, none⟩, 8, 8⟩ ops8) (fun g hg => oops_mk (fun g hg => each8 hg) hg) ?_
  refine xcl (DeviceRuns_spec 30 ⟨some ⟨b24, 0, none⟩, 8, 8⟩ ops8 (z _ rfl)) rdb ?_
  rintro ⟨c, _⟩ _ ⟨hc, rfl⟩
  obtain rfl : c = true := hc
  refine app0 (ca1 (xjoin (xift rfl ?_)))
  refine xcl many_spec rdb ?_
  rintro ⟨c, _⟩ _ ⟨hc, rfl⟩
  obtain rfl : c = true := hc
  exact app0 (ca1 (xjoin (xift rfl wk_end)))

end Go.Cx
