/-
  OrdersOpens, OrdersPlays.
-/
import Derived.Test.YthnfnfhcgpnkpaaOG
namespace Go.Cx
open Go Go.Cf
set_option linter.unusedVariables false
variable {B : Base} {As : List HP}

theorem OrdersOpens_spec (b ids : Sl) (xs : List UInt8) (ys : List Int) : Ct Pr F_law25_OrdersOpens [b.v, ids.v] .one [.bool] [] ((RAr U8 b xs).and (RAr I64 ids ys)) (fun t Bs => t.1 = true ∧ Bs = []) := by
  refine spec1 c_law25_OrdersOpens fun B hr => ?_
  have fb : Fro B b U8 xs := ⟨hr.1⟩
  have fi : Fro B ids I64 ys := ⟨hr.2⟩
  have hb := hr.1.1
  have hi := hr.2.1
  unfold law25_OrdersOpens
  refine xif (fun _ => wk25) (fun h => ?_)
  have h : ¬ (b.n > 2000 ∨ ids.n > 100) := by simp at h; omega
  refine xcl (New_spec 4000) rdb ?_
  rintro ⟨q, r, _⟩ _ (⟨h, _⟩ | ⟨_, _, h5, ⟨b0, h4⟩, rfl⟩)
  · omega
  simp only at h4 h5
  subst h4 h5
  refine app1 (ca2 ?_)
  refine xcl (rNew_spec 4000) rdb ?_
  rintro ⟨x, r, _⟩ _ (⟨h, _⟩ | ⟨_, _, h5, ⟨b2, h4⟩, rfl⟩)
  · omega
  simp only at h4 h5
  subst h4 h5
  refine app1 (ca2 (xjoin (xiff rfl ?_)))
  refine xcl (Append_spec (some ⟨b0, 0, none⟩) ⟨false, false, 0, 4000, []⟩ cmdN b xs) rdb ?_
  rintro ⟨r, _⟩ _ ⟨hr1, rfl⟩
  simp only at hr1
  subst hr1
  refine app1 (ca1 ?_)
  refine xcl (rAppend_spec (some ⟨b2, 0, none⟩) ⟨false, false, 0, 4000, []⟩ cmdN b xs) rdb ?_
  rintro ⟨r, _⟩ _ ⟨hr1, rfl⟩
  simp only at hr1
  subst hr1
  refine app1 (ca1 (xiff (by simp) (xnew fun b1 => ?_)))
  generalize (appendM ⟨false, false, 0, 4000, []⟩ cmdN xs).1 = m
  refine xadd (A := JOpt (some ⟨b0, 0, none⟩) none none) rfl ?_
  refine xadd (A := RJOpt (some ⟨b2, 0, none⟩) none none) rfl ?_
  refine xpair_back b1 (some ⟨b0, 0, none⟩) (some ⟨b2, 0, none⟩) none none none ?_
  refine xuse [PairO (some ⟨b1, 0, none⟩) (some ⟨b0, 0, none⟩) (some ⟨b2, 0, none⟩) none, DevObj (some ⟨b0, 0, none⟩) m, RefDev (some ⟨b2, 0, none⟩) m] ?_
  refine xloop1 (fun n i As => ∃ (k : Nat) (m : DM) (o : Option JM), i = (k : Int) ∧ n = 2 - k ∧ k ≤ 2 ∧ As = [PairO (some ⟨b1, 0, none⟩) (some ⟨b0, 0, none⟩) (some ⟨b2, 0, none⟩) o, DevObj (some ⟨b0, 0, none⟩) m, RefDev (some ⟨b2, 0, none⟩) m]) 2 ⟨0, m, none, rfl, rfl, by omega, rfl⟩ ?_
  rintro n _ _ K ⟨k, m, o, rfl, rfl, hk, rfl⟩ hK
  refine xif_dec (fun hlt => ?_) (fun _ => wk25)
  refine xcl (popen_spec (some ⟨b1, 0, none⟩) (some ⟨b0, 0, none⟩) (some ⟨b2, 0, none⟩) m o) rdb ?_
  rintro ⟨c, _⟩ _ ⟨hc, rfl⟩
  obtain rfl : c = true := hc
  refine app3 (ca1 (xjoin (xiff rfl ?_)))
  refine xcl (Looks_spec (some ⟨b0, 0, none⟩) (some ⟨b2, 0, none⟩) (openJ m).1) rdb ?_
  rintro ⟨c, _⟩ _ ⟨hc, rfl⟩
  obtain rfl : c = true := hc
  refine app2 (ca1 (xiff rfl ?_))
  refine xuse [PairO (some ⟨b1, 0, none⟩) (some ⟨b0, 0, none⟩) (some ⟨b2, 0, none⟩) (openedJ m), DevObj (some ⟨b0, 0, none⟩) (openJ m).1, RefDev (some ⟨b2, 0, none⟩) (openJ m).1] ?_
  refine xloop1 (fun n i As => ∃ (t : Nat), i = (t : Int) ∧ n = ys.length - t ∧ t ≤ ys.length ∧ As = [PairO (some ⟨b1, 0, none⟩) (some ⟨b0, 0, none⟩) (some ⟨b2, 0, none⟩) (openedJ m), DevObj (some ⟨b0, 0, none⟩) (openJ m).1, RefDev (some ⟨b2, 0, none⟩) (openJ m).1]) ys.length ⟨0, rfl, rfl, by omega, rfl⟩ ?_
  rintro n _ _ K1 ⟨t, rfl, rfl, ht, rfl⟩ hK1
  refine xif_dec (fun hlt => ?_) (fun _ => ?_)
  · have hy := List.getElem?_eq_getElem (l := ys) (i := t) (by omega)
    refine xidxn (h1 := by omega) (h := fun _ _ => ?_)
    refine xgetE hy (h := ?_)
    refine xcl (alike_spec (some ⟨b1, 0, none⟩) (some ⟨b0, 0, none⟩) (some ⟨b2, 0, none⟩) (openedJ m) (ys[t]'(by omega))) rdb ?_
    rintro ⟨c, _⟩ _ ⟨hc, rfl⟩
    obtain rfl : c = true := hc
    refine app1 (ca1 (xiff rfl ?_))
    rw [wrap_succ t (by omega)]
    exact hK1 (ys.length - (t + 1)) _ _ (by omega) ⟨t + 1, rfl, rfl, by omega, rfl⟩
  · rw [wrap_succ k (by omega)]
    exact hK (2 - (k + 1)) _ _ (by omega) ⟨k + 1, _, _, rfl, rfl, by omega, rfl⟩

structure AOp where
  kind : Int
  id : Int
  n : Int
  data : List UInt8
instance : Inhabited AOp := ⟨⟨0, 0, 0, []⟩⟩
abbrev CAc := Int × Int × Int × Sl
def ACT : Enc CAc := ⟨fun x => [.int .i64 x.1, .int .i64 x.2.1, .int .i64 x.2.2.1, x.2.2.2.v], 4, fun _ => rfl, fun x v h => by simp at h; rcases h with rfl | rfl | rfl | rfl <;> rfl, by decide, (0, 0, 0, ⟨none, 0, 0⟩)⟩
def AOk (o : CAc) (a : AOp) (h : Frag) : Prop := o.1 = a.kind ∧ o.2.1 = a.id ∧ o.2.2.1 = a.n ∧ i64 a.kind ∧ i64 a.n ∧ RAr U8 o.2.2.2 a.data h
def RActs (s : Sl) (acts : List AOp) : HP := fun h => ∃ os : List CAc, RAr ACT s os h ∧ os.length = acts.length ∧ ∀ (i : Nat) (o : CAc) (a : AOp), os[i]? = some o → acts[i]? = some a → AOk o a h

theorem OrdersPlays_spec (room : Int) (l : Sl) (acts : List AOp) (hr0 : i64 room) : Ct Pr F_law25_OrdersPlays [.int .i64 room, l.v] .one [.bool] [] (RActs l acts) (fun t Bs => t.1 = true ∧ Bs = []) := by
  refine spec1 c_law25_OrdersPlays fun B hr => ?_
  obtain ⟨os, ha, hlen, hok⟩ := hr
  have fo : Fro B l ACT os := ⟨ha⟩
  have hol := ha.1
  unfold law25_OrdersPlays
  refine xcl (Pick_spec room 4000 hr0 ⟨by decide, by decide⟩) rdb ?_
  rintro ⟨r, _⟩ _ ⟨hp, rfl⟩
  have hp := pick_use r 4000 hp (by decide)
  obtain ⟨rm, hrm⟩ := Int.eq_ofNat_of_zero_le hp.1
  obtain rfl : r = (rm : Int) := hrm
  have hrm : rm < 4000 := by omega
  refine app0 (ca1 ?_)
  refine xcl (New_spec (rm : Int)) rdb ?_
  rintro ⟨q, r1, _⟩ _ (⟨h, _⟩ | ⟨_, _, h5, ⟨b0, h4⟩, rfl⟩)
  · omega
  simp only at h4 h5
  subst h4 h5
  refine app1 (ca2 ?_)
  refine xcl (rNew_spec (rm : Int)) rdb ?_
  rintro ⟨x, r1, _⟩ _ (⟨h, _⟩ | ⟨_, _, h5, ⟨b2, h4⟩, rfl⟩)
  · omega
  simp only at h4 h5
  subst h4 h5
  refine app1 (ca2 (xiff rfl (xnew fun b1 => ?_)))
  refine xadd (A := JOpt (some ⟨b0, 0, none⟩) none none) rfl ?_
  refine xadd (A := RJOpt (some ⟨b2, 0, none⟩) none none) rfl ?_
  refine xpair_back b1 (some ⟨b0, 0, none⟩) (some ⟨b2, 0, none⟩) none none none ?_
  refine xcl (popen_spec (some ⟨b1, 0, none⟩) (some ⟨b0, 0, none⟩) (some ⟨b2, 0, none⟩) ⟨false, false, 0, rm, []⟩ none) rdb ?_
  rintro ⟨c, _⟩ _ ⟨hc, rfl⟩
  obtain rfl : c = true := hc
  refine app3 (ca1 (xiff rfl ?_))
  generalize (openJ ⟨false, false, 0, rm, []⟩).1 = m
  generalize openedJ ⟨false, false, 0, rm, []⟩ = o
  refine xuse [PairO (some ⟨b1, 0, none⟩) (some ⟨b0, 0, none⟩) (some ⟨b2, 0, none⟩) o, DevObj (some ⟨b0, 0, none⟩) m, RefDev (some ⟨b2, 0, none⟩) m] ?_
  refine xloop1 (fun n i As => ∃ (k : Nat) (m : DM) (o : Option JM), i = (k : Int) ∧ n = os.length - k ∧ k ≤ os.length ∧ As = [PairO (some ⟨b1, 0, none⟩) (some ⟨b0, 0, none⟩) (some ⟨b2, 0, none⟩) o, DevObj (some ⟨b0, 0, none⟩) m, RefDev (some ⟨b2, 0, none⟩) m]) os.length ⟨0, m, o, rfl, rfl, by omega, rfl⟩ ?_
  rintro n _ _ K ⟨k, m, o, rfl, rfl, hk, rfl⟩ hK
  refine xif (fun hlt => ?_) (fun hlt => ?_)
  · have hlt : k < os.length ∧ k < 60 := by simp at hlt; omega
    have hx := List.getElem?_eq_getElem (l := os) (i := k) (by omega)
    have hy := List.getElem?_eq_getElem (l := acts) (i := k) (by omega)
    generalize os[k]'(by omega) = w at hx
    generalize acts[k]'(by omega) = a at hy
    obtain ⟨e1, e2, e3, ek, en, ed⟩ := hok k w a hx hy
    obtain ⟨w1, w2, w3, w4⟩ := w
    simp only at e1 e2 e3 ed
    refine xidxn (h1 := by omega) (h := fun _ _ => ?_)
    refine xgetEj hx (h := ?_)
    dsimp only
    refine xif_dec (fun _ => wk25) (fun _ => ?_)
    refine xdraw (xjoin ?_)
    refine xidxn (h1 := by omega) (h := fun _ _ => ?_)
    refine xgetE hx (h := ?_)
    refine xgetEj hx (h := ?_)
    refine xgetEj hx (h := ?_)
    refine xgetEj hx (h := ?_)
    dsimp only
    subst e1 e2 e3
    have fd : Fro B w4 U8 a.data := ⟨ed⟩
    refine xcl (does_spec (some ⟨b1, 0, none⟩) (some ⟨b0, 0, none⟩) (some ⟨b2, 0, none⟩) m o a.kind a.id a.n w4 a.data ek en) rdb ?_
    rintro ⟨c, _⟩ _ ⟨hc, m', o', rfl⟩
    obtain rfl : c = true := hc
    refine app3 (ca1 (xiff rfl ?_))
    refine xidxn (h1 := by omega) (h := fun _ _ => ?_)
    refine xgetEj hx (h := ?_)
    dsimp only
    refine xcl (alike_spec (some ⟨b1, 0, none⟩) (some ⟨b0, 0, none⟩) (some ⟨b2, 0, none⟩) o' a.id) rdb ?_
    rintro ⟨c, _⟩ _ ⟨hc, rfl⟩
    obtain rfl : c = true := hc
    refine app1 (ca1 (xiff rfl ?_))
    refine xpair 0 fun b q1 q2 hp _ _ => ?_
    cases hp
    refine xnil (xget (h := xnil (xget (h := ?_))))
    refine xcl (Looks_spec (some ⟨b0, 0, none⟩) (some ⟨b2, 0, none⟩) m') rdb ?_
    rintro ⟨c, _⟩ _ ⟨hc, rfl⟩
    obtain rfl : c = true := hc
    refine app2 (ca1 (xiff rfl ?_))
    refine xpair_back b1 (some ⟨b0, 0, none⟩) (some ⟨b2, 0, none⟩) q1 q2 o' ?_
    rw [wrap_succ k (by omega)]
    exact hK (os.length - (k + 1)) _ _ (by omega) ⟨k + 1, m', o', rfl, rfl, by omega, rfl⟩
  · clear hlt hK hk
    refine xloop1 (fun n i As => ∃ (k : Nat), i = (k : Int) ∧ n = os.length - k ∧ k ≤ os.length ∧ As = [PairO (some ⟨b1, 0, none⟩) (some ⟨b0, 0, none⟩) (some ⟨b2, 0, none⟩) o, DevObj (some ⟨b0, 0, none⟩) m, RefDev (some ⟨b2, 0, none⟩) m]) os.length ⟨0, rfl, rfl, by omega, rfl⟩ ?_
    rintro n _ _ K1 ⟨k, rfl, rfl, hk, rfl⟩ hK1
    refine xif (fun hlt => ?_) (fun hlt => wk25)
    have hlt : k < os.length ∧ k < 60 := by simp at hlt; omega
    have hx := List.getElem?_eq_getElem (l := os) (i := k) (by omega)
    generalize os[k]'(by omega) = w at hx
    refine xidxn (h1 := by omega) (h := fun _ _ => ?_)
    refine xgetEj hx (h := ?_)
    dsimp only
    refine xcl (alike_spec (some ⟨b1, 0, none⟩) (some ⟨b0, 0, none⟩) (some ⟨b2, 0, none⟩) o w.2.1) rdb ?_
    rintro ⟨c, _⟩ _ ⟨hc, rfl⟩
    obtain rfl : c = true := hc
    refine app1 (ca1 (xiff rfl ?_))
    rw [wrap_succ k (by omega)]
    exact hK1 (os.length - (k + 1)) _ _ (by omega) ⟨k + 1, rfl, rfl, by omega, rfl⟩

end Go.Cx
