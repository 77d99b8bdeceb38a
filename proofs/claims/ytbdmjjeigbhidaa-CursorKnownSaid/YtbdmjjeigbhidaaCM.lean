/-
  CursorRuns.
-/
import Derived.Test.YtbdmjjeigbhidaaCL
import Derived.Test.YtbdmjjeigbhidaaDM
namespace Go.Cx
open Go Go.Cf
set_option linter.unusedVariables false
variable {B : Base} {As : List HP}

def w0M : DM := ⟨false, false, 0, 100, []⟩
def w1M : DM := (saveM w0M ⟨5, 1, 2⟩).1
def w2M : DM := wakeM w1M 0
theorem cw0 : (loadM w0M).1.a = 0 ∧ (loadM w0M).1.b = 0 ∧ (loadM w0M).1.c = 0 ∧ (loadM w0M).2 = 0 := by decide +kernel
theorem cw1 : (saveM w0M ⟨5, 1, 2⟩).2 = 0 := by decide +kernel
theorem cw2 : (loadM w2M).1.a = 5 ∧ (loadM w2M).1.b = 1 ∧ (loadM w2M).1.c = 2 ∧ (loadM w2M).2 = 0 := by decide +kernel
theorem cw3 : usedN w2M.fs = 30 := by decide +kernel

theorem works24_spec : Ct Pr F_law24_works [] .one [.bool] [] emp (fun t Bs => t.1 = true ∧ Bs = []) := by
  refine spec1 c_law24_works fun B _ => ?_
  unfold law24_works
  refine xcl (New_spec 100) rdb ?_
  rintro ⟨q, r, _⟩ _ (⟨h, _⟩ | ⟨_, _, h1, ⟨b, h2⟩, rfl⟩)
  · omega
  simp only at h1 h2
  subst h1 h2
  refine app1 (ca2 (xiff rfl ?_))
  rw [show (⟨false, false, 0, 100, []⟩ : DM) = w0M from rfl]
  refine xcl (Load_spec (some ⟨b, 0, none⟩) w0M) rdb ?_
  obtain ⟨a0, a1, a2, a3⟩ := cw0
  rw [a0, a1, a2, a3]
  rintro ⟨r1, r2, r3, r4, _⟩ _ ⟨h1, h2, h3, h4, rfl⟩
  simp only at h1 h2 h3 h4
  subst h1 h2 h3 h4
  refine app1 (ca4 (xnew fun b1 => xset (h := xset (h := xset (h := ?_)))))
  refine xcl (Save_spec (some ⟨b, 0, none⟩) w0M ⟨5, 1, 2⟩) rdb ?_
  rw [cw1]
  rintro ⟨r5, _⟩ _ ⟨h1, rfl⟩
  simp only at h1
  subst h1
  refine app1 (ca1 ?_)
  rw [show (saveM w0M ⟨5, 1, 2⟩).1 = w1M from rfl]
  refine xcl (Wake_spec (some ⟨b, 0, none⟩) w1M 0) rdb ?_
  rintro _ _ rfl
  refine app1 (ca0 ?_)
  rw [show wakeM w1M 0 = w2M from rfl]
  refine xcl (Load_spec (some ⟨b, 0, none⟩) w2M) rdb ?_
  obtain ⟨a0, a1, a2, a3⟩ := cw2
  rw [a0, a1, a2, a3]
  rintro ⟨r6, r7, r8, r9, _⟩ _ ⟨h1, h2, h3, h4, rfl⟩
  simp only at h1 h2 h3 h4
  subst h1 h2 h3 h4
  refine app1 (ca4 (xnew fun b2 => xset (h := xset (h := xset (h := ?_)))))
  refine xjoin (xift rfl (xget (h := xget (h := xget (h := ?_)))))
  refine xjoin (xift rfl (xget (h := xget (h := xget (h := ?_)))))
  refine xjoin (xift rfl ?_)
  refine xcl (Used_spec (some ⟨b, 0, none⟩) w2M) rdb ?_
  rw [cw3]
  rintro ⟨r, _⟩ _ ⟨h1, rfl⟩
  simp only at h1
  subst h1
  exact app1 (ca1 (xkeep (l := []) (xret ⟨rfl, rfl⟩)))

theorem wk24 {B : Base} {As : List HP} : Ent B As (XCall Pr F_law24_works [] .one [.bool] fun c => Ret B (ss := [.bool]) (fun t Bs => t.1 = true ∧ Bs = []) (c, ())) := by
  refine xkeep (l := []) ?_
  refine xcl works24_spec rdb ?_
  rintro ⟨c, _⟩ _ ⟨h, rfl⟩
  obtain rfl : c = true := h
  exact app0 (ca1 (xret ⟨rfl, rfl⟩))

structure KOp where
  kind : Int
  n : Int
  cu : Cu
  name : ByteArray
  data : List UInt8
instance : Inhabited KOp := ⟨⟨0, 0, cu0, ByteArray.empty, []⟩⟩
abbrev CK := Int × Int × Int × Int × Int × ByteArray × Sl
def OK : Enc CK := ⟨fun x => [.int .i64 x.1, .int .i64 x.2.1, .int .i64 x.2.2.1, .int .i64 x.2.2.2.1, .int .i64 x.2.2.2.2.1, .string x.2.2.2.2.2.1, x.2.2.2.2.2.2.v], 7, fun _ => rfl, fun x v h => by simp at h; rcases h with rfl | rfl | rfl | rfl | rfl | rfl | rfl <;> rfl, by decide, (0, 0, 0, 0, 0, ByteArray.empty, ⟨none, 0, 0⟩)⟩
def KOk (o : CK) (m : KOp) (h : Frag) : Prop := o.1 = m.kind ∧ o.2.1 = m.n ∧ o.2.2.1 = m.cu.a ∧ o.2.2.2.1 = m.cu.b ∧ o.2.2.2.2.1 = m.cu.c ∧ o.2.2.2.2.2.1 = m.name ∧ i64 m.n ∧ RAr U8 o.2.2.2.2.2.2 m.data h
def RKs (s : Sl) (ops : List KOp) : HP := fun h => ∃ os : List CK, RAr OK s os h ∧ os.length = ops.length ∧ ∀ (i : Nat) (o : CK) (m : KOp), os[i]? = some o → ops[i]? = some m → KOk o m h
theorem KOk.mono {o : CK} {m : KOp} {h g : Frag} (hr : KOk o m h) (hs : Sub h g) : KOk o m g :=
  ⟨hr.1, hr.2.1, hr.2.2.1, hr.2.2.2.1, hr.2.2.2.2.1, hr.2.2.2.2.2.1, hr.2.2.2.2.2.2.1, hr.2.2.2.2.2.2.2.mono hs⟩
theorem RKs.mono {s : Sl} {ops : List KOp} {h g : Frag} (hr : RKs s ops h) (hs : Sub h g) : RKs s ops g := by
  obtain ⟨os, h1, h2, h3⟩ := hr
  exact ⟨os, h1.mono hs, h2, fun i o m a b => (h3 i o m a b).mono hs⟩

theorem long24_spec (s : Sl) (ops : List KOp) : Ct Pr F_law24_long [s.v] .one [.bool] [] (RKs s ops) (fun t Bs => (t.1 = false → ops.length ≤ 200) ∧ Bs = []) := by
  refine spec1 c_law24_long fun B hr => ?_
  obtain ⟨os, h1, h2, h3⟩ := hr
  have fa : Fro B s OK os := ⟨h1⟩
  have hn := h1.1
  unfold law24_long
  refine xif_dec (fun h => xret ⟨(fun h => by cases h), rfl⟩) (fun h => ?_)
  refine xloop1 (fun n i As => ∃ k : Nat, i = (k : Int) ∧ n = ops.length - k ∧ k ≤ ops.length ∧ As = []) ops.length ⟨0, rfl, rfl, by omega, rfl⟩ ?_
  rintro n _ _ K ⟨k, rfl, rfl, hk, rfl⟩ hK
  refine xif_dec (fun h => ?_) (fun h => xret ⟨fun _ => by omega, rfl⟩)
  have ho := List.getElem?_eq_getElem (l := os) (i := k) (by omega)
  refine xidxn (h1 := by omega) (h := fun _ _ => ?_)
  refine xgetEj ho (h := ?_)
  refine xjoin1 (fun x As' => As' = []) ?_ ?_
  · intro J hJ
    refine xif_dec (fun h => hJ _ _ rfl) (fun h => ?_)
    refine xidxn (h1 := by omega) (h := fun _ _ => ?_)
    exact xgetEj ho (h := hJ _ _ rfl)
  rintro x _ rfl
  refine xif (fun h => xret ⟨(fun h => by cases h), rfl⟩) (fun h => ?_)
  rw [wrap_succ k (by omega)]
  exact hK (ops.length - (k + 1)) _ _ (by omega) ⟨k + 1, rfl, rfl, by omega, rfl⟩

theorem CursorRuns_spec (room : Int) (s : Sl) (ops : List KOp) : Ct Pr F_law24_CursorRuns [.int .i64 room, s.v] .one [.bool] [] (RKs s ops) (fun t Bs => t.1 = true ∧ Bs = []) := by
  refine spec1 c_law24_CursorRuns fun B hr => ?_
  have fo : FroP B (RKs s ops) := ⟨hr, fun _ _ h s => h.mono s⟩
  have hr' := hr
  obtain ⟨os, h1, h2, h3⟩ := hr'
  have fa : Fro B s OK os := ⟨h1⟩
  have hsn := h1.1
  unfold law24_CursorRuns
  refine xcl (New_spec room) rdb ?_
  rintro ⟨q, r, _⟩ _ (⟨hbad, h4, h5, rfl⟩ | ⟨hlo, hhi, h5, ⟨b, h4⟩, rfl⟩)
  · simp only at h4 h5
    subst h4 h5
    refine app0 (ca2 ?_)
    refine xcl (rNew_spec room) rdb ?_
    rintro ⟨q, r, _⟩ _ (⟨_, h4, h5, rfl⟩ | ⟨hlo, hhi, _⟩)
    · simp only at h4 h5
      subst h4 h5
      refine app0 (ca2 ?_)
      refine xcl (long24_spec s ops) rdb ?_
      rintro ⟨c, _⟩ _ ⟨_, rfl⟩
      exact app0 (ca1 (xift (by simp) wk24))
    · omega
  simp only at h4 h5
  subst h4 h5
  refine app1 (ca2 ?_)
  refine xcl (rNew_spec room) rdb ?_
  rintro ⟨q, r, _⟩ _ (⟨hbad, _⟩ | ⟨_, _, h5, ⟨b2, h4⟩, rfl⟩)
  · omega
  simp only at h4 h5
  subst h4 h5
  refine app1 (ca2 ?_)
  refine xcl (long24_spec s ops) rdb ?_
  rintro ⟨c, _⟩ _ ⟨hlong, rfl⟩
  simp only at hlong
  refine app0 (ca1 (xif (fun _ => wk24) (fun h => ?_)))
  have hol := hlong (by simpa using h)
  refine xuse [DevObj (some ⟨b, 0, none⟩) ⟨false, false, 0, room, []⟩, RefDev (some ⟨b2, 0, none⟩) ⟨false, false, 0, room, []⟩] ?_
  refine xloop1 (fun n i As => ∃ (k : Nat) (m : DM), i = (k : Int) ∧ n = ops.length - k ∧ k ≤ ops.length ∧ As = [DevObj (some ⟨b, 0, none⟩) m, RefDev (some ⟨b2, 0, none⟩) m]) ops.length ⟨0, _, rfl, rfl, by omega, rfl⟩ ?_
  rintro n _ _ K ⟨k, m, rfl, rfl, hk, rfl⟩ hK
  refine xif_dec (fun h => ?_) (fun h => wk24)
  have hm := List.getElem?_eq_getElem (l := ops) (i := k) (by omega)
  have ho := List.getElem?_eq_getElem (l := os) (i := k) (by omega)
  obtain ⟨e1, e2, e3, e4, e5, e6, hn, hd⟩ := h3 k _ _ ho hm
  generalize ops[k] = x at *
  generalize os[k] = o at *
  obtain ⟨o1, o2, o3, o4, o5, o6, o7⟩ := o
  simp only at e1 e2 e3 e4 e5 e6 hd
  subst e1 e2 e3 e4 e5 e6
  have fd : Fro B o7 U8 x.data := ⟨hd⟩
  refine xidxn (h1 := by omega) (h := fun _ _ => ?_)
  refine xgetE ho (h := ?_)
  refine xgetEj ho (h := ?_)
  refine xgetEj ho (h := ?_)
  refine xgetEj ho (h := ?_)
  refine xgetEj ho (h := ?_)
  refine xgetEj ho (h := ?_)
  refine xgetEj ho (h := ?_)
  dsimp only
  refine xnew fun b3 => xset (h := xset (h := xset (h := xset (h := xset (h := xset (h := xset (h := xget (h := ?_))))))))
  refine xjoin1 (fun y As' => y = true ∧ ∃ m', As' = [DevObj (some ⟨b, 0, none⟩) m', RefDev (some ⟨b2, 0, none⟩) m']) ?_ ?_
  · intro J hJ
    refine xif (fun g => ?_) (fun g => ?_)
    · refine xdraw (xget (h := xget (h := xget (h := xget (h := xget (h := xget (h := ?_)))))))
      refine xcl (Save_spec (some ⟨b, 0, none⟩) m x.cu) rdb ?_
      rintro ⟨r, _⟩ _ ⟨hr, rfl⟩
      simp only at hr
      subst hr
      refine app1 (ca1 (xchk (h := xchk (h := xchk (h := ?_)))))
      refine xcl (rSave_spec (some ⟨b2, 0, none⟩) m x.cu) rdb ?_
      rintro ⟨r, _⟩ _ ⟨hr, rfl⟩
      simp only at hr
      subst hr
      exact app1 (ca1 (xuse [DevObj (some ⟨b, 0, none⟩) (saveM m x.cu).1, RefDev (some ⟨b2, 0, none⟩) (saveM m x.cu).1] (hJ _ _ ⟨by simp, _, rfl⟩)))
    refine xjoin (xif (fun g => ?_) (fun g => ?_))
    · refine xget (h := ?_)
      refine xcl (Wake_spec (some ⟨b, 0, none⟩) m x.n) rdb ?_
      rintro _ _ rfl
      refine app1 (ca0 (xget (h := ?_)))
      refine xcl (rWake_spec (some ⟨b2, 0, none⟩) m x.n) rdb ?_
      rintro _ _ rfl
      exact app1 (ca0 (xuse [DevObj (some ⟨b, 0, none⟩) (wakeM m x.n), RefDev (some ⟨b2, 0, none⟩) (wakeM m x.n)] (hJ _ _ ⟨rfl, _, rfl⟩)))
    refine xjoin (xif (fun g => ?_) (fun g => ?_))
    · refine xdraw (xnil (xget (h := ?_)))
      refine xcl (Arm_spec (some ⟨b, 0, none⟩) m x.n hn) rdb ?_
      rintro _ _ rfl
      refine app1 (ca0 (xget (h := ?_)))
      refine xcl (rArm_spec (some ⟨b2, 0, none⟩) m x.n hn) rdb ?_
      rintro _ _ rfl
      exact app1 (ca0 (xuse [DevObj (some ⟨b, 0, none⟩) (armM m x.n), RefDev (some ⟨b2, 0, none⟩) (armM m x.n)] (hJ _ _ ⟨rfl, _, rfl⟩)))
    refine xjoin (xif (fun g => ?_) (fun g => ?_))
    · refine xdraw (xget (h := xget (h := xget (h := xget (h := ?_)))))
      refine xcl (Append_spec (some ⟨b, 0, none⟩) m x.name o7 x.data) rdb ?_
      rintro ⟨r, _⟩ _ ⟨hr, rfl⟩
      simp only at hr
      subst hr
      refine app1 (ca1 (xchk (h := xchk (h := ?_))))
      refine xcl (rAppend_spec (some ⟨b2, 0, none⟩) m x.name o7 x.data) rdb ?_
      rintro ⟨r, _⟩ _ ⟨hr, rfl⟩
      simp only at hr
      subst hr
      exact app1 (ca1 (xuse [DevObj (some ⟨b, 0, none⟩) (appendM m x.name x.data).1, RefDev (some ⟨b2, 0, none⟩) (appendM m x.name x.data).1] (hJ _ _ ⟨by simp, _, rfl⟩)))
    refine xjoin (xif (fun g => ?_) (fun g => ?_))
    · refine xdraw (xget (h := xget (h := ?_)))
      refine xcl (Remove_spec (some ⟨b, 0, none⟩) m x.name) rdb ?_
      rintro ⟨r, _⟩ _ ⟨hr, rfl⟩
      simp only at hr
      subst hr
      refine app1 (ca1 (xchk (h := ?_)))
      refine xcl (rRemove_spec (some ⟨b2, 0, none⟩) m x.name) rdb ?_
      rintro ⟨r, _⟩ _ ⟨hr, rfl⟩
      simp only at hr
      subst hr
      exact app1 (ca1 (xuse [DevObj (some ⟨b, 0, none⟩) (removeM m x.name).1, RefDev (some ⟨b2, 0, none⟩) (removeM m x.name).1] (hJ _ _ ⟨by simp, _, rfl⟩)))
    · exact xuse [DevObj (some ⟨b, 0, none⟩) m, RefDev (some ⟨b2, 0, none⟩) m] (hJ _ _ ⟨rfl, _, rfl⟩)
  rintro _ _ ⟨rfl, m', rfl⟩
  refine xcl (Load_spec (some ⟨b, 0, none⟩) m') rdb ?_
  rintro ⟨r8, r9, r10, r11, _⟩ _ ⟨g1, g2, g3, g4, rfl⟩
  simp only at g1 g2 g3 g4
  subst g1 g2 g3 g4
  refine app1 (ca4 (xnew fun b4 => xset (h := xset (h := xset (h := ?_)))))
  refine xcl (rLoad_spec (some ⟨b2, 0, none⟩) m') rdb ?_
  rintro ⟨r12, r13, r14, r15, _⟩ _ ⟨g1, g2, g3, g4, rfl⟩
  simp only at g1 g2 g3 g4
  subst g1 g2 g3 g4
  refine app1 (ca4 (xnew fun b5 => xset (h := xset (h := xset (h := ?_)))))
  refine xjoin (xiff rfl (xget (h := xget (h := xget (h := xget (h := xget (h := xget (h := ?_))))))))
  refine xjoin (xiff (by simp) ?_)
  refine xcl (Looks_spec (some ⟨b, 0, none⟩) (some ⟨b2, 0, none⟩) m') rdb ?_
  rintro ⟨c, _⟩ _ ⟨h6, rfl⟩
  obtain rfl : c = true := h6
  refine app2 (ca1 (xiff rfl ?_))
  rw [wrap_succ k (by omega)]
  exact xuse [DevObj (some ⟨b, 0, none⟩) m', RefDev (some ⟨b2, 0, none⟩) m'] (hK (ops.length - (k + 1)) _ _ (by omega) ⟨k + 1, m', rfl, rfl, by omega, rfl⟩)

section
open Go.ChangeShapes Go.WideShapes Go.Deep
set_option maxRecDepth 100000
variable {H : Type} {enc : TypeId × Value → H} {w : World} {base : Nat} {held : Bool}

theorem opens_cu : Opens enc Pr w base held 64 (⟨fun x => [.int .i64 x.1, .int .i64 x.2.1, .int .i64 x.2.2], 3, fun _ => rfl, fun x v h => by simp at h; rcases h with rfl | rfl | rfl <;> rfl, by decide, (0, 0, 0)⟩ : Enc (Int × Int × Int)) (fun a b => a = b) := by
  intro fuel cs x hx
  obtain ⟨xs, n, _, _, hlen, hxs, hf⟩ := DataW.trod_struct Go.Proofs.Try.underlying64 hx
  have ce : Pr.cellsOf 64 = 3 := by kernel_rfl
  rw [ce] at hlen
  match xs, hxs, cs, hlen with
  | [y0, y1, y2], _, [v0, v1, v2], _ =>
    have c3 : Pr.cellsOf 3 = 1 := by kernel_rfl
    have g0 := hf 0 _ rfl
    have g1 := hf 1 _ rfl
    have g2 := hf 2 _ rfl
    simp [c3] at g0 g1 g2
    obtain ⟨a0, _, h0, rfl, r0⟩ := opens_i64 (P := Pr) (t := 3) (by kernel_rfl) _ _ _ g0
    obtain ⟨a1, _, h1, rfl, r1⟩ := opens_i64 (P := Pr) (t := 3) (by kernel_rfl) _ _ _ g1
    obtain ⟨a2, _, h2, rfl, r2⟩ := opens_i64 (P := Pr) (t := 3) (by kernel_rfl) _ _ _ g2
    obtain rfl : v0 = .int .i64 a0 := by simpa [I64] using h0
    obtain rfl : v1 = .int .i64 a1 := by simpa [I64] using h1
    obtain rfl : v2 = .int .i64 a2 := by simpa [I64] using h2
    exact ⟨(a0, a1, a2), (a0, a1, a2), rfl, rfl⟩

theorem opens_k : Opens enc Pr w base held 77 OK (fun o (m : KOp) => KOk o m (mem w)) := by
  intro fuel cs x hx
  obtain ⟨xs, n, _, _, hlen, hxs, hf⟩ := DataW.trod_struct Go.Proofs.Try.underlying77 hx
  have ce : Pr.cellsOf 77 = 7 := by kernel_rfl
  rw [ce] at hlen
  match xs, hxs, cs, hlen with
  | [y0, y1, y2, y3, y4], _, [v0, v1, v2, v3, v4, v5, v6], _ =>
    have c3 : Pr.cellsOf 3 = 1 := by kernel_rfl
    have c9 : Pr.cellsOf 9 = 1 := by kernel_rfl
    have c30 : Pr.cellsOf 30 = 1 := by kernel_rfl
    have cc : Pr.cellsOf 64 = 3 := by kernel_rfl
    have g0 := hf 0 _ rfl
    have g1 := hf 1 _ rfl
    have g2 := hf 2 _ rfl
    have g3 := hf 3 _ rfl
    have g4 := hf 4 _ rfl
    simp [c3, c9, c30, cc] at g0 g1 g2 g3 g4
    obtain ⟨a0, _, h0, rfl, r0⟩ := opens_i64 (P := Pr) (t := 3) (by kernel_rfl) _ _ _ g0
    obtain ⟨a1, _, h1, rfl, r1⟩ := opens_i64 (P := Pr) (t := 3) (by kernel_rfl) _ _ _ g1
    obtain ⟨⟨b0, b1, b2⟩, _, h2, rfl⟩ := opens_cu _ _ _ g2
    obtain ⟨a3, _, h3, rfl⟩ := opens_str (P := Pr) (t := 9) (by kernel_rfl) _ _ _ g3
    obtain ⟨s, bs, h4, _, r4⟩ := opens_bytes (P := Pr) (t := 30) (e := 5) (by kernel_rfl) (by kernel_rfl) (by kernel_rfl) _ _ _ g4
    obtain rfl : v0 = .int .i64 a0 := by simpa [I64] using h0
    obtain rfl : v1 = .int .i64 a1 := by simpa [I64] using h1
    obtain ⟨rfl, rfl, rfl⟩ : v2 = .int .i64 b0 ∧ v3 = .int .i64 b1 ∧ v4 = .int .i64 b2 := by simpa using h2
    obtain rfl : v5 = .string a3 := by simpa [Cf.ST] using h3
    obtain rfl : v6 = s.v := by simpa [SL] using h4
    exact ⟨(a0, a1, b0, b1, b2, a3, s), ⟨a0, a1, ⟨b0, b1, b2⟩, a3, bs⟩, rfl, rfl, rfl, rfl, rfl, rfl, rfl, r1, r4⟩

theorem ks_of_trod {fuel : Nat} {a : Option Addr} {n c : Nat} {x : DataW H × List MemPlace}
    (h : DataW.trod enc Pr w base (fun _ => true) held fuel 74 [.slice a n c] = some x) : ∃ s ops, [Value.slice a n c] = SL.f s ∧ RKs s ops (mem w) := by
  obtain ⟨s, ops, h1, h2, os, h3, h4, h5⟩ := opens_slice (E := OK) (P := Pr) (R := fun o (m : KOp) => KOk o m (mem w)) (t := 74) (e := 77) (by kernel_rfl) (by kernel_rfl) opens_k fuel _ x h
  exact ⟨s, ops, h1, os, h3, h4, h5⟩
end

end Go.Cx
