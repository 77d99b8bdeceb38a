/-
  The document's Print; ConfigPrints.
-/
import Derived.Test.YtncgenibaclejaaDoorCC
namespace Go.Cx
open Go Go.Cf
set_option linter.unusedVariables false
set_option maxRecDepth 100000
variable {B : Base} {As F : List HP}

theorem app_list (a b : ByteArray) : (a ++ b).data.toList = a.data.toList ++ b.data.toList := by simp
theorem lit_list (l : List UInt8) : (ByteArray.mk l.toArray).data.toList = l := by simp

theorem flags_get (w s x : Bool) : flagsL[(((if w then (1 : Int) else 0) + (if s then 2 else 0)) + (if x then 4 else 0)).toNat]? = some (BA (flagL w s x)) := by
  cases w <;> cases s <;> cases x <;> rfl

set_option maxHeartbeats 2000000 in
theorem PrintRef_spec (c : Cfg) (s : Sl) : Ct Pr F_ref27_Print [c.v s] (.tup [none, none]) [.str, .int .i64] [] (RAr TG s c.tags) (fun t Bs => t.2.1 = cfgE c ∧ t.1 = (if cfgE c = 0 then BA (textL c) else ByteArray.empty) ∧ Bs = []) := by
  refine spec2 c_ref27_Print fun B hr => ?_
  haveI : Fro B s TG c.tags := ⟨hr⟩
  have hn := hr.1
  unfold ref27_Print
  have num : ∀ {As : List HP} {K : ByteArray → WP} (n : Int), (-9223372036854775808 ≤ n ∧ n ≤ 9223372036854775807) → (∀ l, l = Lib.itoa n → l.length ≤ 21 → Ent B As (K (BA l))) → Ent B As (XCall Pr F_ref27_Number [.int .i64 n] .one [.str] K) := by
    intro As K n ⟨h0, h1⟩ h
    refine xcall0 (Number_spec n h0 h1) rdb ?_
    rintro ⟨x, _⟩ _ ⟨hx, rfl⟩
    obtain rfl : x = BA (Lib.itoa n) := hx
    exact app0 (ca1 (h _ rfl (itoa_len h0 h1)))
  have dash : ∀ {As : List HP} {K : ByteArray → WP} (l : List UInt8) (is : Bool), (Ent B As (K (BA (if is then l else [45])))) → Ent B As (XCall Pr F_ref27_dash [.string (BA l), .bool is] .one [.str] K) := by
    intro As K l is h
    refine xcall0 (dash_spec (BA l) is) rdb ?_
    rintro ⟨x, _⟩ _ ⟨hx, rfl⟩
    have e : x = BA (if is then l else [45]) := by rw [show x = _ from hx]; cases is <;> rfl
    rw [e]
    exact app0 (ca1 h)
  refine xnew fun b => ?_
  iterate 7 (refine xget (h := ?_))
  refine xcall0 (Check27Ref_spec c s) rdb ?_
  rintro ⟨e, _⟩ _ ⟨he, rfl⟩
  obtain rfl : e = cfgE c := he
  refine app0 (ca1 (xif (fun h => xkeep (l := []) (xret ⟨rfl, ?_, rfl⟩)) (fun h => ?_)))
  · rw [if_neg (by simpa using h)]
  have h0 : cfgE c = 0 := by simpa using h
  rw [if_pos h0, h0]
  obtain ⟨ho, ha⟩ := cfg_ok h0
  have hl := allE_len ha
  obtain ⟨a1, a2, b1, b2, c1, c2, d1, d2, e1, e2, f1, f2⟩ := own_all ho
  refine xdraw ?_
  repeat' (first | refine xdraw ?_ | refine xchk (h := ?_) | refine xget (h := ?_) | refine xasrt (by simp only [app_size, BA_size, lit_size, List.length_cons, List.length_nil]; omega) ?_ | (refine And.intro ?_ ?_ <;> omega) | refine num _ ?_ (fun l hl hll => ?_))
  refine xloop2 (fun m (t : ByteArray) (x : Int) As' => ∃ k : Nat, x = (k : Int) ∧ m = c.tags.length - k ∧ k ≤ c.tags.length ∧ t = BA (textK c k) ∧ As' = [Blk b (c.cs s)]) c.tags.length ⟨0, rfl, by omega, by omega, ?_, rfl⟩ ?_
  · subst_vars
    apply Go.WideShapes.bytes_inj
    simp only [app_list, BA_list]
    simp [textK, lineL, headW, Lib.join, List.intercalate]
  rintro m t x As' K ⟨k, rfl, rfl, hk, rfl, rfl⟩ hK
  refine xget (h := xif_dec (fun hp => ?_) (fun hp => ?_))
  rotate_left
  · obtain rfl : k = c.tags.length := by omega
    exact xkeep (l := []) (xret ⟨rfl, rfl, rfl⟩)
  have hp : k < c.tags.length := by omega
  refine xget (h := ?_)
  refine xidxn (E := TG) (xs := c.tags) (s := s) (h1 := hp) (h := fun t ht => ?_)
  refine xgetE (E := TG) (xs := c.tags) ht (h := ?_)
  iterate 18 (refine xgetEj (E := TG) (xs := c.tags) ht (h := ?_))
  obtain ⟨n0, ⟨u1, u2⟩, ⟨k1, k2⟩, ⟨a1, a2⟩, ⟨e1, e2⟩, ⟨m1, m2⟩, ⟨d1, d2⟩, ⟨p1, p2⟩, ⟨q1, q2⟩, ⟨r1, r2⟩, ⟨l1, l2⟩, ⟨g1, g2⟩, ⟨y1, y2⟩⟩ := tag_all (allE_tag ha ht)
  have hxl := textK_len h0 k (by omega)
  refine xnew fun b1 => ?_
  iterate 19 (refine xset (h := ?_))
  refine xfold1 (Q := Blk b1 t.cells) 0 (fun g hg => hg) ?_
  refine xdraw ?_
  iterate 3 (refine xget (h := ?_))
  refine xcall0 (bit_spec _ _) rdb ?_
  rintro ⟨v1, _⟩ _ ⟨hv1, rfl⟩
  refine app0 (ca1 (xchk (h := xchk (h := ?_))))
  refine xcall0 (bit_spec _ _) rdb ?_
  rintro ⟨v2, _⟩ _ ⟨hv2, rfl⟩
  refine app0 (ca1 (xchk (h := ?_)))
  refine xcall0 (bit_spec _ _) rdb ?_
  rintro ⟨v3, _⟩ _ ⟨hv3, rfl⟩
  refine app0 (ca1 (xdraw ?_))
  simp only at hv1 hv2 hv3
  have w1 : IntKind.i64.wrap (IntKind.i64.wrap (v1 + v2) + v3) = v1 + v2 + v3 := by
    rw [hv1, hv2, hv3]
    cases t.wide <;> cases t.sgn <;> cases t.swap <;> rfl
  have hkl := kindL_len t.kind
  have hfl := flagL_len t.wide t.sgn t.swap
  have hnm := name_len n0
  have hns : t.name.size = t.name.data.toList.length := by rw [Array.length_toList]; rfl
  repeat' (first | refine xdraw ?_ | refine xchk (h := ?_) | refine xget (h := ?_) | refine xasrt (by simp only [app_size, BA_size, lit_size, List.length_cons, List.length_nil]; omega) ?_ | (refine And.intro ?_ ?_ <;> omega) | refine num _ ?_ (fun l hl hll => ?_))
  refine xcall0 kinds_spec rdb ?_
  rintro ⟨sk, _⟩ _ rfl
  refine app1 (ca1 ?_)
  dsimp only
  iterate 9 (refine xchk (h := ?_))
  rw [wrap_id (t.kind - 1) (by omega) (by omega)]
  refine xidx (E := Cf.ST) (xs := kindsL) (s := sk) (h0 := by omega) (h1 := by simp [kindsL]; omega) (h := fun kk hkk => ?_)
  obtain rfl : kk = BA (kindL t.kind) := by rw [kinds_get ⟨k1, k2⟩] at hkk; cases hkk; rfl
  refine xgetE (E := Cf.ST) (xs := kindsL) hkk (h := ?_)
  repeat' (first | refine xdraw ?_ | refine xchk (h := ?_) | refine xget (h := ?_) | refine xchkE (E := Cf.ST) (xs := kindsL) hkk (h := ?_) | refine xasrt (by simp only [app_size, BA_size, lit_size, List.length_cons, List.length_nil]; omega) ?_ | (refine And.intro ?_ ?_ <;> omega) | refine num _ ?_ (fun l hl hll => ?_))
  refine xcall0 flags_spec rdb ?_
  rintro ⟨sf, _⟩ _ rfl
  refine app1 (ca1 ?_)
  dsimp only
  repeat' (first | refine xdraw ?_ | refine xchk (h := ?_) | refine xget (h := ?_) | refine xchkE (E := Cf.ST) (xs := kindsL) hkk (h := ?_) | refine xasrt (by simp only [app_size, BA_size, lit_size, List.length_cons, List.length_nil]; omega) ?_ | (refine And.intro ?_ ?_ <;> omega) | refine num _ ?_ (fun l hl hll => ?_))
  rw [w1]
  have hfg := flags_get t.wide t.sgn t.swap
  rw [← hv1, ← hv2, ← hv3] at hfg
  have hv0 : 0 ≤ v1 + v2 + v3 ∧ v1 + v2 + v3 ≤ 7 := by
    rw [hv1, hv2, hv3]
    cases t.wide <;> cases t.sgn <;> cases t.swap <;> decide
  refine xidx (E := Cf.ST) (xs := flagsL) (s := sf) (h0 := hv0.1) (h1 := Int.lt_of_le_of_lt hv0.2 (by decide)) (h := fun ff hff => ?_)
  obtain rfl : ff = BA (flagL t.wide t.sgn t.swap) := by rw [hfg] at hff; cases hff; rfl
  refine xgetE (E := Cf.ST) (xs := flagsL) hff (h := ?_)
  repeat' (first | refine xdraw ?_ | refine xchk (h := ?_) | refine xget (h := ?_) | refine xchkE (E := Cf.ST) (xs := kindsL) hkk (h := ?_) | refine xchkE (E := Cf.ST) (xs := flagsL) hff (h := ?_) | refine xasrt (by simp only [app_size, BA_size, lit_size, List.length_cons, List.length_nil]; omega) ?_ | (refine And.intro ?_ ?_ <;> omega) | refine num _ ?_ (fun l hl hll => ?_))
  repeat' (first | refine xdraw ?_ | refine xchk (h := ?_) | refine xget (h := ?_) | refine xchkE (E := Cf.ST) (xs := kindsL) hkk (h := ?_) | refine xchkE (E := Cf.ST) (xs := flagsL) hff (h := ?_) | refine xasrt (by simp only [app_size, BA_size, lit_size, List.length_cons, List.length_nil]; omega) ?_ | (refine And.intro ?_ ?_ <;> omega) | refine num _ ?_ (fun l hl hll => ?_))
  refine dash _ _ ?_
  have hd1 : (if t.ulow = true then l else [45]).length ≤ 21 := by
    split
    · omega
    · simp
  repeat' (first | refine xdraw ?_ | refine xchk (h := ?_) | refine xget (h := ?_) | refine xchkE (E := Cf.ST) (xs := kindsL) hkk (h := ?_) | refine xchkE (E := Cf.ST) (xs := flagsL) hff (h := ?_) | refine xasrt (by simp only [app_size, BA_size, lit_size, List.length_cons, List.length_nil]; omega) ?_ | (refine And.intro ?_ ?_ <;> omega) | refine num _ ?_ (fun l hl hll => ?_))
  refine dash _ _ ?_
  have hd2 : (if t.uhigh = true then l else [45]).length ≤ 21 := by
    split
    · omega
    · simp
  repeat' (first | refine xdraw ?_ | refine xchk (h := ?_) | refine xget (h := ?_) | refine xchkE (E := Cf.ST) (xs := kindsL) hkk (h := ?_) | refine xchkE (E := Cf.ST) (xs := flagsL) hff (h := ?_) | refine xasrt (by simp only [app_size, BA_size, lit_size, List.length_cons, List.length_nil]; omega) ?_ | (refine And.intro ?_ ?_ <;> omega) | refine num _ ?_ (fun l hl hll => ?_))
  refine dash _ _ ?_
  have hd3 : (if t.latch = true then [108, 97, 116, 99, 104] else [(45 : UInt8)]).length ≤ 21 := by cases t.latch <;> decide
  repeat' (first | refine xdraw ?_ | refine xchk (h := ?_) | refine xget (h := ?_) | refine xchkE (E := Cf.ST) (xs := kindsL) hkk (h := ?_) | refine xchkE (E := Cf.ST) (xs := flagsL) hff (h := ?_) | refine xasrt (by simp only [app_size, BA_size, lit_size, List.length_cons, List.length_nil]; omega) ?_ | (refine And.intro ?_ ?_ <;> omega) | refine num _ ?_ (fun l hl hll => ?_))
  rw [wrap_succ k (by omega)]
  refine xuse [Blk b (c.cs s)] (hK _ _ _ _ (by omega) ⟨k + 1, rfl, rfl, by omega, ?_, rfl⟩)
  rw [textK_succ ht]
  subst_vars
  apply Go.WideShapes.bytes_inj
  simp only [app_list, BA_list]
  simp [lineL, tagW, boundL, latchL, Lib.join, List.intercalate]

end Go.Cx

namespace Go.Cx
open Go Go.Cf
variable {B : Base} {As F : List HP}
set_option linter.unusedVariables false

theorem ConfigPrints_spec (c : Cfg) (s : Sl) (hm : c.tags.length ≤ 1099511627744) : Ct Pr F_law27_ConfigPrints [c.v s] .one [.bool] [] ((RAr TG s c.tags).and GTab) (fun t Bs => t.1 = true ∧ Bs = []) := by
  refine spec1 c_law27_ConfigPrints fun B hr => ?_
  haveI : Fro B s TG c.tags := ⟨hr.1⟩
  haveI : FroP B GTab := ⟨hr.2, fun _ _ h s => GTab.mono _ _ h s⟩
  unfold law27_ConfigPrints
  refine xnew fun b => ?_
  iterate 7 (refine xget (h := ?_))
  refine xnew fun b1 => ?_
  iterate 7 (refine xset (h := ?_))
  refine xget (h := ?_)
  refine xcall0 (LentTags_spec s c.tags hm) rdb ?_
  rintro ⟨x, _⟩ _ rfl
  refine app1 (ca1 (xset (h := ?_)))
  iterate 7 (refine xget (h := ?_))
  refine xcall0 (Print_spec c x) rdb ?_
  rintro ⟨t, e, _⟩ _ ⟨he, ht, rfl⟩
  simp only at he ht; subst he
  refine app0 (ca2 ?_)
  iterate 7 (refine xget (h := ?_))
  refine xcall0 (PrintRef_spec c s) rdb ?_
  rintro ⟨t1, e1, _⟩ _ ⟨he1, ht1, rfl⟩
  simp only at he1 ht1; subst he1
  obtain rfl : t = t1 := ht.trans ht1.symm
  refine app0 (ca2 (xdraw (xjoin ?_)))
  iterate 14 (refine xget (h := ?_))
  refine xcall0 (Check27_spec c x) rdb ?_
  rintro ⟨e2, _⟩ _ ⟨he2, rfl⟩
  obtain rfl : e2 = cfgE c := he2
  refine app0 (ca1 ?_)
  iterate 7 (refine xchk (h := ?_))
  refine xcall0 (Check27Ref_spec c s) rdb ?_
  rintro ⟨e3, _⟩ _ ⟨he3, rfl⟩
  obtain rfl : e3 = cfgE c := he3
  refine app0 (ca1 (xift (by simp) (xift (by simp) (xift (by simp) (xget (h := xget (h := ?_)))))))
  refine xcall0 (KeptTags_spec x s c.tags hm) rdb ?_
  rintro ⟨k, _⟩ _ ⟨hk, rfl⟩
  obtain rfl : k = true := hk
  exact app0 (ca1 (xkeep (l := []) (xret ⟨rfl, rfl⟩)))

end Go.Cx
