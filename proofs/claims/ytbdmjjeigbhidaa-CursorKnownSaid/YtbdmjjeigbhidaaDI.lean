/-
  DeviceRoom, DeviceRenamed.
-/
import Derived.Test.YtbdmjjeigbhidaaDH
namespace Go.Cx
open Go Go.Cf Go.ChangeShapes Go.WideShapes Go.Deep
set_option linter.unusedVariables false
set_option maxRecDepth 100000
variable {B : Base} {As : List HP}

section
variable {H : Type} {enc : TypeId × Value → H} {w : World} {base : Nat} {held : Bool}

theorem opens_str {P : Program} {t : TypeId} (ht : P.underlying t = some .string) : Opens enc P w base held t ST (fun a b => a = b) := by
  intro fuel cs x hx
  obtain ⟨s, hcs, _⟩ := DataW.trod_string ht hx
  exact ⟨s, s, hcs, rfl⟩

theorem opens_op : Opens enc Pr w base held 54 OP (fun o (m : DOp) => OpOk o m (mem w)) := by
  intro fuel cs x hx
  obtain ⟨xs, n, _, _, hlen, hxs, hf⟩ := DataW.trod_struct Go.Proofs.Try.underlying54 hx
  have ce : Pr.cellsOf 54 = 5 := by kernel_rfl
  rw [ce] at hlen
  match xs, hxs, cs, hlen with
  | [y0, y1, y2, y3, y4], _, [v0, v1, v2, v3, v4], _ =>
    have c3 : Pr.cellsOf 3 = 1 := by kernel_rfl
    have c9 : Pr.cellsOf 9 = 1 := by kernel_rfl
    have c30 : Pr.cellsOf 30 = 1 := by kernel_rfl
    have g0 := hf 0 _ rfl
    have g1 := hf 1 _ rfl
    have g2 := hf 2 _ rfl
    have g3 := hf 3 _ rfl
    have g4 := hf 4 _ rfl
    simp [c3, c9, c30] at g0 g1 g2 g3 g4
    obtain ⟨a0, _, h0, rfl, r0⟩ := opens_i64 (P := Pr) (t := 3) (by kernel_rfl) _ _ _ g0
    obtain ⟨a1, _, h1, rfl⟩ := opens_str (P := Pr) (t := 9) (by kernel_rfl) _ _ _ g1
    obtain ⟨a2, _, h2, rfl⟩ := opens_str (P := Pr) (t := 9) (by kernel_rfl) _ _ _ g2
    obtain ⟨s, bs, h3, _, r3⟩ := opens_bytes (P := Pr) (t := 30) (e := 5) (by kernel_rfl) (by kernel_rfl) (by kernel_rfl) _ _ _ g3
    obtain ⟨a4, _, h4, rfl, r4⟩ := opens_i64 (P := Pr) (t := 3) (by kernel_rfl) _ _ _ g4
    obtain rfl : v0 = .int .i64 a0 := by simpa [I64] using h0
    obtain rfl : v1 = .string a1 := by simpa [Cf.ST] using h1
    obtain rfl : v2 = .string a2 := by simpa [Cf.ST] using h2
    obtain rfl : v3 = s.v := by simpa [SL] using h3
    obtain rfl : v4 = .int .i64 a4 := by simpa [I64] using h4
    exact ⟨(a0, a1, a2, s, a4), ⟨a0, a1, a2, bs, a4⟩, rfl, rfl, rfl, rfl, rfl, r0, r4, r3⟩

theorem ops_of_trod {fuel : Nat} {a : Option Addr} {n c : Nat} {x : DataW H × List MemPlace}
    (h : DataW.trod enc Pr w base (fun _ => true) held fuel 50 [.slice a n c] = some x) : ∃ s ops, [Value.slice a n c] = SL.f s ∧ ROps s ops (mem w) := by
  obtain ⟨s, ops, h1, h2, os, h3, h4, h5⟩ := opens_slice (E := OP) (P := Pr) (R := fun o (m : DOp) => OpOk o m (mem w)) (t := 50) (e := 54) (by kernel_rfl) (by kernel_rfl) opens_op fuel _ x h
  exact ⟨s, ops, h1, h2, os, h3, h4, h5⟩
end

theorem spent_room {m : DM} {g : DM → DM} (hg : ∀ m, (g m).room = m.room) : (spent m g).1.room = m.room := by
  unfold spent
  split
  · exact (spendM_fs m).2
  · simp only [hg]; exact (spendM_fs m).2

theorem onFile_room {m : DM} {nm : ByteArray} {g : Nat → DF → DM → DM × Int} (hg : ∀ i f, (g i f m).1.room = m.room) : (onFile m nm g).1.room = m.room := by
  unfold onFile
  split
  · rfl
  split
  · rfl
  · exact hg _ _

theorem runM_room (m : DM) (o : DOp) : (runM m o).1.room = m.room := by
  unfold runM
  split
  · unfold appendM
    split
    · rfl
    split
    · rfl
    split
    · rfl
    split
    · exact (spendM_fs m).2
    · exact (spendM_fs m).2
  split
  · exact onFile_room fun _ _ => spent_room fun _ => rfl
  split
  · refine onFile_room fun _ _ => ?_
    split
    · rfl
    · exact spent_room fun _ => rfl
  split
  · unfold renameM
    split
    · rfl
    · exact onFile_room fun _ _ => spent_room fun _ => rfl
  split
  · exact onFile_room fun _ _ => spent_room fun _ => rfl
  split
  · rfl
  split
  · rfl
  · rfl

theorem read_at {m : DM} (h : Sorted m.fs) {i : Nat} {f : DF} (hf : m.fs[i]? = some f) : readM m f.nm = (f.b, 0) := by
  obtain ⟨h1, h2⟩ := find_unique h hf rfl
  unfold readM
  simp only [DF.key] at h1 h2
  rw [h1, h2]
  simp [hf]

theorem DeviceRoom_spec (room : Int) (s : Sl) (ops : List DOp) (hr0 : i64 room) : Ct Pr F_law12_DeviceRoom [.int .i64 room, s.v] .one [.bool] [] (ROps s ops) (fun t Bs => t.1 = true ∧ Bs = []) := by
  refine spec1 c_law12_DeviceRoom fun B hr => ?_
  have fo : FroP B (ROps s ops) := ⟨hr, fun _ _ h s => h.mono s⟩
  have hr' := hr
  obtain ⟨hsc, os, h1, h2, h3⟩ := hr'
  have fa : Fro B s OP os := ⟨h1⟩
  have hsn := h1.1
  unfold law12_DeviceRoom
  have wk : ∀ {As : List HP}, Ent B As (XCall Pr F_law12_works [] .one [.bool] fun c => Ret B (ss := [.bool]) (fun t Bs => t.1 = true ∧ Bs = []) (c, ())) := fun {As} => by
    refine xkeep (l := []) ?_
    refine xcl works_spec rdb ?_
    rintro ⟨c, _⟩ _ ⟨h, rfl⟩
    obtain rfl : c = true := h
    exact app0 (ca1 (xret ⟨rfl, rfl⟩))
  refine xcl (New_spec room) rdb ?_
  rintro ⟨q, r, _⟩ _ (⟨_, h4, h5, rfl⟩ | ⟨hlo, hhi, h5, ⟨b, h4⟩, rfl⟩)
  · simp only at h4 h5
    subst h4 h5
    refine app0 (ca2 ?_)
    refine xcl (long_spec s ops) rdb ?_
    rintro ⟨c, _⟩ _ ⟨hlong, rfl⟩
    exact app0 (ca1 (xift (by simp) wk))
  simp only at h4 h5
  subst h4 h5
  refine app1 (ca2 ?_)
  refine xcl (long_spec s ops) rdb ?_
  rintro ⟨c, _⟩ _ ⟨hlong, rfl⟩
  simp only at hlong
  refine app0 (ca1 (xif (fun _ => wk) (fun h => ?_)))
  obtain ⟨hol, hob⟩ := long_false (hlong.symm.trans (by simpa using h))
  refine xloop1 (fun n i As => ∃ (k : Nat) (m : DM), i = (k : Int) ∧ n = ops.length - k ∧ k ≤ ops.length ∧ m.room = room ∧ As = [DevObj (some ⟨b, 0, none⟩) m]) ops.length ⟨0, _, rfl, rfl, by omega, rfl, rfl⟩ ?_
  rintro n _ _ K ⟨k, m0, rfl, rfl, hk, hm0, rfl⟩ hK
  refine xif_dec (fun h => ?_) (fun h => wk)
  have hm := List.getElem?_eq_getElem (l := ops) (i := k) (by omega)
  have ho := List.getElem?_eq_getElem (l := os) (i := k) (by omega)
  obtain ⟨e1, e2, e3, e4, _, hn, hd⟩ := h3 k _ _ ho hm
  generalize ops[k] = x at *
  generalize os[k] = o at *
  obtain ⟨o1, o2, o3, o4, o5⟩ := o
  simp only at e1 e2 e3 e4 hd
  subst e1 e2 e3 e4
  have fd : Fro B o4 U8 x.data := ⟨hd⟩
  refine xidxn (h1 := by omega) (h := fun _ _ => ?_)
  refine xgetE ho (h := ?_)
  refine xgetEj ho (h := ?_)
  refine xgetEj ho (h := ?_)
  refine xgetEj ho (h := ?_)
  refine xgetEj ho (h := ?_)
  dsimp only
  refine xcl (run_spec (some ⟨b, 0, none⟩) m0 o4 x hn) rdb ?_
  rintro ⟨r1, _⟩ _ ⟨_, rfl⟩
  refine app1 (ca1 ?_)
  have hroom : (runM m0 x).1.room = room := by rw [runM_room, hm0]
  generalize (runM m0 x).1 = m at *
  refine xfact 0 (fun g hg => hg.1) fun hi => ?_
  have hused := hi.used
  have hlen := hi.len
  rw [hroom] at hused
  refine xcl (Names_spec (some ⟨b, 0, none⟩) m) rdb ?_
  rintro ⟨s1, _⟩ _ rfl
  refine app2 (ca1 ?_)
  refine xlen s1 fun hn1 _ => ?_
  rw [List.length_map] at hn1
  refine xloop2 (fun n u j As => ∃ c : Nat, j = (c : Int) ∧ u = (usedN (m.fs.take c) : Int) ∧ n = m.fs.length - c ∧ c ≤ m.fs.length ∧ As = [DevObj (some ⟨b, 0, none⟩) m, Ar ST s1 (m.fs.map fun f : DF => f.nm)]) m.fs.length ⟨0, rfl, rfl, rfl, by omega, rfl⟩ ?_
  rintro n _ _ _ K' ⟨c, rfl, rfl, rfl, hc, rfl⟩ hK'
  refine xif_dec (fun h => ?_) (fun h => ?_)
  · have hcl : c < m.fs.length := by omega
    have hf := List.getElem?_eq_getElem hcl
    have hnm : (m.fs.map fun f : DF => f.nm)[c]? = some m.fs[c].nm := by rw [List.getElem?_map, hf]; rfl
    have e := usedN_take m.fs c hcl
    have hle := usedN_take_le m.fs (c + 1)
    refine xidxn (h1 := by simp; omega) (h := fun _ _ => ?_)
    refine xgetE hnm (h := ?_)
    refine xcl (Read_spec (some ⟨b, 0, none⟩) m m.fs[c].nm) rdb ?_
    rw [read_at hi.sorted hf]
    rintro ⟨s2, r2, _⟩ _ ⟨h5, rfl⟩
    obtain rfl : r2 = 0 := h5
    refine app2 (ca2 ?_)
    refine xlen s2 fun hl2 _ => ?_
    have hl2' : m.fs[c].b.length = s2.n := hl2
    refine xdraw (xjoin1 (fun y As' => y = false ∧ As' = [DevObj (some ⟨b, 0, none⟩) m, Ar U8 s2 m.fs[c].b, Ar ST s1 (m.fs.map fun f : DF => f.nm)]) ?_ ?_)
    · intro J hJ
      refine xiff rfl (xif_dec (fun h0 => ?_) (fun h0 => hJ _ _ ⟨rfl, rfl⟩))
      have ec : IntKind.i64.wrap ((c : Int) - 1) = ((c - 1 : Nat) : Int) := by rw [wrap_id _ (by omega) (by omega)]; omega
      have hf1 := List.getElem?_eq_getElem (l := m.fs) (i := c - 1) (by omega)
      have hnm1 : (m.fs.map fun f : DF => f.nm)[c - 1]? = some (m.fs[c - 1]'(by omega)).nm := by rw [List.getElem?_map, hf1]; rfl
      rw [ec]
      refine xidxn (h1 := by simp; omega) (h := fun _ _ => ?_)
      refine xgetE hnm1 (h := ?_)
      refine xidxn (h1 := by simp; omega) (h := fun _ _ => ?_)
      refine xgetE hnm (h := hJ _ _ ⟨?_, rfl⟩)
      have := hi.sorted.get (show c - 1 < c by omega) hf1 hf
      simp only [DF.key, lt] at this
      rw [this]; rfl
    rintro _ _ ⟨rfl, rfl⟩
    refine xiff rfl (xdrop 1 ?_)
    rw [wrap_succ c (by omega), wrap_id _ (by omega) (by omega)]
    refine hK' (m.fs.length - (c + 1)) _ _ _ (by omega) ⟨c + 1, rfl, ?_, rfl, by omega, rfl⟩
    rw [e]; show (_ : Int) = _; omega
  · have hcl : c = m.fs.length := by omega
    subst hcl
    rw [List.take_length]
    refine xcl (Used_spec (some ⟨b, 0, none⟩) m) rdb ?_
    rintro ⟨r3, _⟩ _ ⟨h5, rfl⟩
    simp only at h5
    subst h5
    refine app1 (ca1 (xjoin (xiff (by simp; omega) ?_)))
    refine xcl (Free_spec (some ⟨b, 0, none⟩) m) rdb ?_
    rintro ⟨r4, _⟩ _ ⟨h5, rfl⟩
    simp only at h5
    subst h5
    refine app1 (ca1 (xiff ?_ (xdrop 1 ?_)))
    · rw [hroom, wrap_id _ (by omega) (by omega)]
      simp; omega
    rw [wrap_succ k (by omega)]
    exact hK (ops.length - (k + 1)) _ _ (by omega) ⟨k + 1, m, rfl, rfl, by omega, hroom, rfl⟩

end Go.Cx
