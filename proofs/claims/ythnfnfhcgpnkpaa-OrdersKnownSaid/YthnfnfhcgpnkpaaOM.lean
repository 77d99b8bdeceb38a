/-
  OrdersKnown.
-/
import Derived.Test.YthnfnfhcgpnkpaaO3
import Derived.Test.YthnfnfhcgpnkpaaFK
namespace Go.Cx
open Go Go.Cf
set_option linter.unusedVariables false
variable {B : Base} {As : List HP}

/-! The chapter's calls. -/
def n1 := beginJ k0M ⟨false, []⟩ 0
def n2 := beginJ n1.1 n1.2.1 1099511627777
def n3 := beginJ n2.1 n2.2.1 1099511627776
def n4 := endJ n3.1 n3.2.1 8 0
def n5 := endJ n4.1 n4.2.1 1099511627776 256
def n6 := endJ n5.1 n5.2.1 1099511627776 (-1)
def n7 := endJ n6.1 n6.2.1 1099511627776 255
def n8 := endJ n7.1 n7.2.1 1099511627776 4
def nM := armM n8.1 1
def n9 := beginJ nM n8.2.1 9
def n10 := beginJ n9.1 n9.2.1 10
def nO := openJ n10.1
def nW := wakeM nO.1 100
def nP := openJ nW
theorem nk1 : n1.2.2 = 3 ∧ n2.2.2 = 3 ∧ n3.2.2 = 0 ∧ n4.2.2 = 6 ∧ n5.2.2 = 3 ∧ n6.2.2 = 3 ∧ n7.2.2 = 0 ∧ n8.2.2 = 7 := by decide +kernel
theorem nk2 : n9.2.2 = 10 ∧ n10.2.2 = 10 ∧ (stateJ n10.2.1.L 9).1 = 0 ∧ nO.2.1 = 10 ∧ nO.2.2 = none := by decide +kernel
theorem nk3 : nP.2.2.isSome = true ∧ (stateJ (nP.2.2.getD []) 9).1 = 1 := by decide +kernel
def t0M : DM := ⟨false, false, 0, 10, []⟩
def tB := beginJ t0M ⟨false, []⟩ 1
theorem tk1 : tB.2.2 = 9 ∧ stN tB.2.1.L 1 = 0 ∧ tB.1.fs.length = 0 := by decide +kernel

def idsL (k : Nat) : JL := (List.range k).map fun i => (((i + 1 : Nat) : Int), -1)
theorem idsL_len (k : Nat) : (idsL k).length = k := by simp [idsL]
theorem idsL_succ (k : Nat) : idsL (k + 1) = idsL k ++ [(((k + 1 : Nat) : Int), -1)] := by simp [idsL, List.range_succ]
theorem idsL_none (k j : Nat) (h : k < j) : lookM (idsL k) (j : Int) = none := by
  rw [lookM_none]
  intro p hp
  unfold idsL at hp
  obtain ⟨i, hi, rfl⟩ := List.mem_map.1 hp
  have := List.mem_range.1 hi
  simp only
  omega
theorem idsL_some (k j : Nat) (h : 1 ≤ j) (h2 : j ≤ k) : lookM (idsL k) (j : Int) = some (-1) := by
  induction k with
  | zero => omega
  | succ k ih =>
    rw [idsL_succ, lookM_app]
    by_cases e : j ≤ k
    · rw [ih e]
    · rw [idsL_none k j (by omega)]
      simp; omega

set_option maxRecDepth 100000 in
set_option maxHeartbeats 2000000 in
theorem OrdersKnown_spec : Ct Pr F_law25_OrdersKnown [] .one [.bool] [] emp (fun t Bs => t.1 = true ∧ Bs = []) := by
  refine spec1 c_law25_OrdersKnown fun B _ => ?_
  unfold law25_OrdersKnown
  refine xcl (New_spec 1000) rdb ?_
  rintro ⟨q, r, _⟩ _ (⟨h, _⟩ | ⟨_, _, h5, ⟨b0, h4⟩, rfl⟩)
  · omega
  simp only at h4 h5
  subst h4 h5
  refine app1 (ca2 ?_)
  rw [show (⟨false, false, 0, 1000, []⟩ : DM) = k0M from rfl]
  refine xcl (Open_spec (some ⟨b0, 0, none⟩) k0M) rdb ?_
  rintro ⟨q1, r, _⟩ _ (⟨L, hL, hr, rfl⟩ | ⟨hL, _⟩)
  case inr => rw [kn0.1] at hL; cases hL
  simp only at hr
  subst hr
  rw [kn0.1] at hL
  cases hL
  rw [kn0']
  refine app2 (ca2 ?_)
  refine xfact 1 (fun g hg => jobj_some hg) fun hj => ?_
  obtain ⟨bj, hj⟩ := hj
  simp only at hj
  subst hj
  refine xjoin (xiff rfl (xjoin (xiff rfl ?_)))
  refine xcl (Names_spec (some ⟨b0, 0, none⟩) k0M) rdb ?_
  rintro ⟨s, _⟩ _ rfl
  refine app2 (ca1 ?_)
  refine xlen s fun hsn _ => ?_
  have hsn : s.n = 0 := hsn.symm
  rw [hsn]
  refine xiff rfl (xdrop 1 ?_)
  obtain ⟨k1, k2, k3, k4, k5, k6, k7, k8⟩ := nk1
  refine xcl (Begin_spec (some ⟨b0, 0, none⟩) (some ⟨bj, 0, none⟩) k0M ⟨false, []⟩ 0) rdb ?_
  rintro ⟨r, _⟩ _ ⟨hr, rfl⟩
  obtain rfl : r = 3 := hr.trans k1
  rw [show beginJ k0M ⟨false, []⟩ 0 = n1 from rfl]
  refine app2 (ca1 ?_)
  refine xcl (Begin_spec (some ⟨b0, 0, none⟩) (some ⟨bj, 0, none⟩) n1.1 n1.2.1 1099511627777) rdb ?_
  rintro ⟨r, _⟩ _ ⟨hr, rfl⟩
  obtain rfl : r = 3 := hr.trans k2
  rw [show beginJ n1.1 n1.2.1 1099511627777 = n2 from rfl]
  refine app2 (ca1 ?_)
  refine xcl (Begin_spec (some ⟨b0, 0, none⟩) (some ⟨bj, 0, none⟩) n2.1 n2.2.1 1099511627776) rdb ?_
  rintro ⟨r, _⟩ _ ⟨hr, rfl⟩
  obtain rfl : r = 0 := hr.trans k3
  rw [show beginJ n2.1 n2.2.1 1099511627776 = n3 from rfl]
  refine app2 (ca1 ?_)
  refine xeq t_law25_OrdersKnown_2 ?_
  unfold law25_OrdersKnown_2
  refine xcl (End_spec (some ⟨b0, 0, none⟩) (some ⟨bj, 0, none⟩) n3.1 n3.2.1 8 0) rdb ?_
  rintro ⟨r, _⟩ _ ⟨hr, rfl⟩
  obtain rfl : r = 6 := hr.trans k4
  rw [show endJ n3.1 n3.2.1 8 0 = n4 from rfl]
  refine app2 (ca1 ?_)
  refine xcl (End_spec (some ⟨b0, 0, none⟩) (some ⟨bj, 0, none⟩) n4.1 n4.2.1 1099511627776 256) rdb ?_
  rintro ⟨r, _⟩ _ ⟨hr, rfl⟩
  obtain rfl : r = 3 := hr.trans k5
  rw [show endJ n4.1 n4.2.1 1099511627776 256 = n5 from rfl]
  refine app2 (ca1 ?_)
  refine xcl (End_spec (some ⟨b0, 0, none⟩) (some ⟨bj, 0, none⟩) n5.1 n5.2.1 1099511627776 (-1)) rdb ?_
  rintro ⟨r, _⟩ _ ⟨hr, rfl⟩
  obtain rfl : r = 3 := hr.trans k6
  rw [show endJ n5.1 n5.2.1 1099511627776 (-1) = n6 from rfl]
  refine app2 (ca1 ?_)
  refine xcl (End_spec (some ⟨b0, 0, none⟩) (some ⟨bj, 0, none⟩) n6.1 n6.2.1 1099511627776 255) rdb ?_
  rintro ⟨r, _⟩ _ ⟨hr, rfl⟩
  obtain rfl : r = 0 := hr.trans k7
  rw [show endJ n6.1 n6.2.1 1099511627776 255 = n7 from rfl]
  refine app2 (ca1 ?_)
  refine xcl (End_spec (some ⟨b0, 0, none⟩) (some ⟨bj, 0, none⟩) n7.1 n7.2.1 1099511627776 4) rdb ?_
  rintro ⟨r, _⟩ _ ⟨hr, rfl⟩
  obtain rfl : r = 7 := hr.trans k8
  rw [show endJ n7.1 n7.2.1 1099511627776 4 = n8 from rfl]
  refine app2 (ca1 (xiff rfl (xnil ?_)))
  refine xcl (Arm_spec (some ⟨b0, 0, none⟩) n8.1 1 ⟨by decide, by decide⟩) rdb ?_
  rintro _ _ rfl
  rw [show armM n8.1 1 = nM from rfl]
  refine app1 (ca0 ?_)
  refine xeq t_law25_OrdersKnown_3 ?_
  unfold law25_OrdersKnown_3
  obtain ⟨k1, k2, k3, k4, k5⟩ := nk2
  refine xcl (Begin_spec (some ⟨b0, 0, none⟩) (some ⟨bj, 0, none⟩) nM n8.2.1 9) rdb ?_
  rintro ⟨r, _⟩ _ ⟨hr, rfl⟩
  obtain rfl : r = 10 := hr.trans k1
  rw [show beginJ nM n8.2.1 9 = n9 from rfl]
  refine app2 (ca1 ?_)
  refine xcl (Begin_spec (some ⟨b0, 0, none⟩) (some ⟨bj, 0, none⟩) n9.1 n9.2.1 10) rdb ?_
  rintro ⟨r, _⟩ _ ⟨hr, rfl⟩
  obtain rfl : r = 10 := hr.trans k2
  rw [show beginJ n9.1 n9.2.1 10 = n10 from rfl]
  refine app2 (ca1 ?_)
  refine xcl (State_spec (some ⟨b0, 0, none⟩) (some ⟨bj, 0, none⟩) n10.2.1 9) rdb ?_
  rintro ⟨r, r1, _⟩ _ ⟨hr, hr1, rfl⟩
  obtain rfl : r = 0 := hr.trans k3
  refine app1 (ca2 ?_)
  refine xcl (Open_spec (some ⟨b0, 0, none⟩) n10.1) rdb ?_
  rintro ⟨q2, r, _⟩ _ (⟨L, hL, _⟩ | ⟨hL, hq, hr, rfl⟩)
  · rw [show openJ n10.1 = nO from rfl, k5] at hL; cases hL
  obtain rfl : r = 10 := hr.trans k4
  rw [show openJ n10.1 = nO from rfl]
  refine app1 (ca2 ?_)
  refine xcl (Wake_spec (some ⟨b0, 0, none⟩) nO.1 100) rdb ?_
  rintro _ _ rfl
  rw [show wakeM nO.1 100 = nW from rfl]
  refine app1 (ca0 ?_)
  obtain ⟨p1, p2⟩ := nk3
  refine xcl (Open_spec (some ⟨b0, 0, none⟩) nW) rdb ?_
  rintro ⟨q3, r, _⟩ _ (⟨L, hL, hr, rfl⟩ | ⟨hL, _⟩)
  case inr => rw [show openJ nW = nP from rfl] at hL; rw [hL] at p1; cases p1
  obtain rfl : r = 0 := hr
  have hL : nP.2.2 = some L := hL
  rw [hL] at p2
  have p2 : (stateJ L 9).1 = 1 := p2
  refine app2 (ca2 ?_)
  refine xfact 1 (fun g hg => jobj_some hg) fun hj => ?_
  obtain ⟨bp, hj⟩ := hj
  simp only at hj
  subst hj
  refine xeq t_law25_OrdersKnown_4 ?_
  unfold law25_OrdersKnown_4
  refine xjoin (xiff rfl (xiff rfl ?_))
  refine xcl (State_spec (some ⟨b0, 0, none⟩) (some ⟨bp, 0, none⟩) ⟨false, L⟩ 9) rdb ?_
  rintro ⟨r, r1, _⟩ _ ⟨hr, hr1, rfl⟩
  obtain rfl : r = 1 := hr.trans p2
  refine app1 (ca2 ?_)
  refine xkeep (l := []) ?_
  refine xcl (New_spec 10) rdb ?_
  rintro ⟨q, r, _⟩ _ (⟨h, _⟩ | ⟨_, _, h5, ⟨b1, h4⟩, rfl⟩)
  · omega
  simp only at h4 h5
  subst h4 h5
  refine app1 (ca2 ?_)
  rw [show (⟨false, false, 0, 10, []⟩ : DM) = t0M from rfl]
  have et : openJ t0M = (t0M, 0, some []) := open_none rfl (by decide +kernel)
  refine xcl (Open_spec (some ⟨b1, 0, none⟩) t0M) rdb ?_
  rintro ⟨q5, r, _⟩ _ (⟨L, hL, hr, rfl⟩ | ⟨hL, _⟩)
  case inr => rw [et] at hL; cases hL
  simp only at hr
  subst hr
  rw [et] at hL ⊢
  cases hL
  refine app2 (ca2 ?_)
  refine xfact 1 (fun g hg => jobj_some hg) fun hj => ?_
  obtain ⟨b5, hj⟩ := hj
  simp only at hj
  subst hj
  obtain ⟨t1, t2, t3⟩ := tk1
  refine xjoin (xiff rfl (xjoin (xiff rfl ?_)))
  refine xcl (Begin_spec (some ⟨b1, 0, none⟩) (some ⟨b5, 0, none⟩) t0M ⟨false, []⟩ 1) rdb ?_
  rintro ⟨r, _⟩ _ ⟨hr, rfl⟩
  obtain rfl : r = 9 := hr.trans t1
  rw [show beginJ t0M ⟨false, []⟩ 1 = tB from rfl]
  refine app2 (ca1 (xjoin (xiff rfl ?_)))
  refine xcl (state_spec (some ⟨b1, 0, none⟩) (some ⟨b5, 0, none⟩) tB.2.1 1) rdb ?_
  rintro ⟨r, _⟩ _ ⟨hr, rfl⟩
  obtain rfl : r = 0 := hr.trans t2
  refine app1 (ca1 (xjoin (xiff rfl ?_)))
  refine xcl (Names_spec (some ⟨b1, 0, none⟩) tB.1) rdb ?_
  rintro ⟨s, _⟩ _ rfl
  refine app2 (ca1 ?_)
  refine xlen s fun hsn _ => ?_
  have hsn : s.n = 0 := by
    have h : (tB.1.fs.map (·.nm)).length = s.n := hsn
    rw [List.length_map, t3] at h; exact h.symm
  rw [hsn]
  refine xkeep (l := []) ?_
  refine xeq t_law25_OrdersKnown_5 ?_
  unfold law25_OrdersKnown_5
  refine xiff rfl ?_
  refine xcl (New_spec 65536) rdb ?_
  rintro ⟨q, r, _⟩ _ (⟨h, _⟩ | ⟨_, _, h5, ⟨b6, h4⟩, rfl⟩)
  · omega
  simp only at h4 h5
  subst h4 h5
  refine app1 (ca2 ?_)
  have e0 : openJ ⟨false, false, 0, 65536, []⟩ = (⟨false, false, 0, 65536, []⟩, 0, some []) := open_none rfl (by decide +kernel)
  refine xcl (Open_spec (some ⟨b6, 0, none⟩) ⟨false, false, 0, 65536, []⟩) rdb ?_
  rintro ⟨q7, r, _⟩ _ (⟨L, hL, hr, rfl⟩ | ⟨hL, _⟩)
  case inr => rw [e0] at hL; cases hL
  simp only at hr
  subst hr
  rw [e0] at hL ⊢
  cases hL
  refine app2 (ca2 ?_)
  refine xfact 1 (fun g hg => jobj_some hg) fun hj => ?_
  obtain ⟨b7, hj⟩ := hj
  simp only at hj
  subst hj
  refine xjoin (xiff rfl (xiff rfl ?_))
  refine xloop1 (fun n i As => ∃ (k : Nat) (m : DM) (H : List (List UInt8)), i = ((k + 1 : Nat) : Int) ∧ n = 1024 - k ∧ k ≤ 1024 ∧ H.length = k ∧ KeptJ m H (idsL k) ∧ m.armed = false ∧ m.room = 65536 ∧ As = [DevObj (some ⟨b6, 0, none⟩) m, JObj (some ⟨b6, 0, none⟩) (some ⟨b7, 0, none⟩) ⟨false, idsL k⟩]) 1024 ⟨0, _, [], rfl, rfl, by omega, rfl, ⟨rfl, .inl ⟨rfl, rfl, rfl⟩, rfl, by simp⟩, rfl, rfl, rfl⟩ ?_
  rintro n _ _ K ⟨k, m, H, rfl, rfl, hk, hH, hkept, harm, hroom, rfl⟩ hK
  have hlen := idsL_len k
  refine xif_dec (fun hlt => ?_) (fun hlt => ?_)
  · have hlt : k < 1024 := by omega
    have hid : okId ((k + 1 : Nat) : Int) = true := by simp [okId]; omega
    refine xcl (Begin_spec (some ⟨b6, 0, none⟩) (some ⟨b7, 0, none⟩) m ⟨false, idsL k⟩ ((k + 1 : Nat) : Int)) rdb ?_
    rintro ⟨r, _⟩ _ ⟨hr, rfl⟩
    simp only at hr
    subst hr
    refine app2 (ca1 ?_)
    rcases begin_kept hkept hid (by omega) with ⟨v, hv, e⟩ | ⟨hv, e, ht⟩
    · rw [idsL_none k (k + 1) (by omega)] at hv; cases hv
    · rw [e]
      obtain ⟨a1, a2, a3, a4, a5⟩ := laid_free hkept harm (row_small _ (-1)) ht (by omega)
      rw [a1, a2]
      refine xiff rfl ?_
      rw [wrap_succ (k + 1) (by omega), ← idsL_succ]
      rw [← idsL_succ] at a3 a4 a5
      exact xuse [DevObj (some ⟨b6, 0, none⟩) (laidJ m ⟨false, idsL k⟩ (rowJ ((k + 1 : Nat) : Int) (-1)) (idsL (k + 1))).1, JObj (some ⟨b6, 0, none⟩) (some ⟨b7, 0, none⟩) ⟨false, idsL (k + 1)⟩] (hK (1024 - (k + 1)) _ _ (by omega) ⟨k + 1, _, _, rfl, rfl, by omega, by simp [hH], a4, a5, a3.trans hroom, rfl⟩)
  · have hk : k = 1024 := by omega
    subst hk
    have many : ∀ (m : DM) (L : JL), lookM L 1025 = none → L.length = 1024 → beginJ m ⟨false, L⟩ 1025 = (m, ⟨false, L⟩, 34) := fun m L h1 h2 => by
      unfold beginJ
      rw [if_neg (by simp), if_neg (by decide), if_neg (by simp only [h1]; decide), if_pos (by simp only; omega)]
    have hno : lookM (idsL 1024) 1025 = none := idsL_none 1024 1025 (by omega)
    have h7 : lookM (idsL 1024) 7 = some (-1) := idsL_some 1024 7 (by omega) (by omega)
    refine xcl (Begin_spec (some ⟨b6, 0, none⟩) (some ⟨b7, 0, none⟩) m ⟨false, idsL 1024⟩ 1025) rdb ?_
    rw [many m (idsL 1024) hno hlen]
    rintro ⟨r, _⟩ _ ⟨hr, rfl⟩
    simp only at hr
    subst hr
    refine app2 (ca1 (xjoin (xift rfl ?_)))
    have e7 : beginJ m ⟨false, idsL 1024⟩ 7 = (m, ⟨false, idsL 1024⟩, 7) := by
      unfold beginJ
      rw [if_neg (by simp), if_neg (by decide), if_pos (by simp only [h7]; decide)]
    refine xcl (Begin_spec (some ⟨b6, 0, none⟩) (some ⟨b7, 0, none⟩) m ⟨false, idsL 1024⟩ 7) rdb ?_
    rw [e7]
    rintro ⟨r, _⟩ _ ⟨hr, rfl⟩
    simp only at hr
    subst hr
    refine app2 (ca1 (xjoin (xift rfl ?_)))
    refine xcl (End_spec (some ⟨b6, 0, none⟩) (some ⟨b7, 0, none⟩) m ⟨false, idsL 1024⟩ 7 0) rdb ?_
    rintro ⟨r, _⟩ _ ⟨hr, rfl⟩
    simp only at hr
    subst hr
    refine app2 (ca1 ?_)
    rcases end_kept (id := 7) (code := 0) hkept (by omega) (by omega) with ⟨hv, _⟩ | ⟨v, hv, h0, _⟩ | ⟨v, hv, h0, e, ht⟩
    · rw [h7] at hv; cases hv
    · rw [h7] at hv; cases hv; omega
    · rw [e]
      obtain ⟨a1, a2, a3, a4, a5⟩ := laid_free hkept harm (row_small _ 0) ht (by omega)
      rw [a1, a2]
      refine xjoin (xift rfl ?_)
      have hl2 : (setM (idsL 1024) 7 0).length = 1024 := by rw [setM_len h7]; exact hlen
      have hn2 : lookM (setM (idsL 1024) 7 0) 1025 = none := by rw [lookM_set, if_neg (by decide)]; exact hno
      generalize (laidJ m ⟨false, idsL 1024⟩ (rowJ 7 0) (setM (idsL 1024) 7 0)).1 = m' at *
      generalize setM (idsL 1024) 7 0 = L' at *
      refine xcl (Begin_spec (some ⟨b6, 0, none⟩) (some ⟨b7, 0, none⟩) m' ⟨false, L'⟩ 1025) rdb ?_
      rw [many m' L' hn2 hl2]
      rintro ⟨r, _⟩ _ ⟨hr, rfl⟩
      simp only at hr
      subst hr
      exact app2 (ca1 (xjoin (xift rfl wk25)))

end Go.Cx
