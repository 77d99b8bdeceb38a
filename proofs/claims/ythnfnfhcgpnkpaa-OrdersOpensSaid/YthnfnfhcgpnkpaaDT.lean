/-
  DeviceRuns: both devices, side by side.
-/
import Derived.Test.YthnfnfhcgpnkpaaDS
namespace Go.Cx
open Go Go.Cf
set_option linter.unusedVariables false
variable {B : Base} {As : List HP}

theorem Names2_spec (p : Option Addr) (m : DM) : Ct Pr F_device_Device_Names [.pointer p] .one [.slice] [DevObj p m] emp (fun t Bs => ∃ zs : List ByteArray, (∀ z ∈ zs, z = ByteArray.empty) ∧ Bs = [DevObj p m, Ars Cf.ST t.1 (m.fs.map (·.nm)) zs]) := by
  refine spec1 c_device_Device_Names fun B _ => ?_
  unfold device_Device_Names
  refine xdev 0 fun hi b s cs hp sf hsn => ?_
  subst hp
  have hlen := hi.len
  have hcl := sf.len
  refine xnil (xget (h := xadd (A := Ars Cf.ST ⟨none, 0, 0⟩ [] []) ⟨rfl, rfl, .inl ⟨rfl, rfl⟩⟩ ?_))
  refine xloop2 (fun n o i As => ∃ (k : Nat) (zs : List ByteArray), i = (k : Int) ∧ n = m.fs.length - k ∧ k ≤ m.fs.length ∧ (∀ z ∈ zs, z = ByteArray.empty) ∧ As = [Ars Cf.ST o ((m.fs.map fun f : DF => f.nm).take k) zs, Blk b (devCells m s), Ar FILE s cs, Each FileR cs m.fs]) m.fs.length ⟨0, [], rfl, rfl, by omega, by simp, rfl⟩ ?_
  rintro n o _ _ K ⟨k, zs, rfl, rfl, hk, hzs, rfl⟩ hK
  refine xif_dec (fun h => ?_) (fun h => ?_)
  · have hf := List.getElem?_eq_getElem (l := m.fs) (i := k) (by omega)
    have hc := List.getElem?_eq_getElem (l := cs) (i := k) (by omega)
    obtain ⟨h1, _⟩ := sf.each _ _ _ hc hf
    refine xidxn (h1 := by omega) (h := fun _ _ => ?_)
    refine xgetE hc (h := ?_)
    refine xgetEj hc (h := ?_)
    refine xgetEj hc (h := xnew fun b1 => xset (h := xset (h := xset (h := xget (h := xnew fun b2 => ?_)))))
    refine xapp1P (E := Cf.ST) (zs := zs) (xs := (m.fs.map fun f : DF => f.nm).take k) cs[k].1 (hb := by simp; omega) (h := fun s' zs' hz' => ?_)
    rw [wrap_succ k (by omega)]
    refine xdrop 1 (hK (m.fs.length - (k + 1)) _ _ _ (by omega) ⟨k + 1, zs', rfl, rfl, by omega, fun z hz => ?_, ?_⟩)
    · rcases hz' z hz with h | h
      · exact hzs z h
      · exact h
    · rw [List.take_add_one, List.getElem?_map, hf, h1]; rfl
  · have : k = m.fs.length := by omega
    subst this
    rw [List.take_of_length_le (by simp)]
    exact xdev_back b s cs hi (xret ⟨zs, hzs, rfl⟩)

theorem SpoilTexts_spec (l : Sl) (xs zs : List ByteArray) (hx : ∀ x ∈ xs ++ zs, x.size ≤ 4096) : Ct Pr F_kit_SpoilTexts [l.v] (.tup []) [] [Ars Cf.ST l xs zs] emp (fun t Bs => Bs = []) := by
  refine spec0 c_kit_SpoilTexts fun B _ => ?_
  unfold kit_SpoilTexts
  refine xslc0 rfl (by omega) (by omega) ?_
  rw [Int.toNat_natCast]
  refine xfact 0 (fun g hg => (⟨hg.2.1, hg.cap_le⟩ : xs.length + zs.length = l.c ∧ _)) fun hM => ?_
  obtain ⟨h2, hM⟩ := hM
  refine xshift l.c (xs ++ zs) [] (by simp) (by simpa using h2) (xar ?_)
  refine xloop1 (fun n i As => ∃ (k : Nat) (ys : List ByteArray), i = (k : Int) ∧ n = l.c - k ∧ k ≤ l.c ∧ ys.length = l.c ∧ (∀ y ∈ ys.drop k, y.size ≤ 4096) ∧ As = [Ar Cf.ST ⟨l.p, l.c, l.c⟩ ys]) l.c ⟨0, xs ++ zs, rfl, rfl, by omega, by simpa using h2, hx, rfl⟩ ?_
  rintro n _ _ K ⟨k, ys, rfl, rfl, hk, hl, hys, rfl⟩ hK
  refine xif_dec (fun h => ?_) (fun h => ?_)
  · simp only at h
    have hkl : k < ys.length := by omega
    have hy := List.getElem?_eq_getElem hkl
    have hsz : ys[k].size ≤ 4096 := hys _ (by rw [List.drop_eq_getElem_cons hkl]; exact List.mem_cons_self)
    generalize ys[k] = y at *
    refine xidxn (h1 := by omega) (h := fun _ _ => ?_)
    refine xgetE hy (h := ?_)
    have h1 : (⟨#[126]⟩ : ByteArray).size = 1 := rfl
    refine xasrt (by rw [h1]; omega) ?_
    refine xidxn (h1 := by omega) (h := fun _ _ => ?_)
    refine xsetE (y ++ ⟨#[126]⟩) hy (hv := rfl) (h := ?_)
    rw [wrap_succ k (by omega)]
    refine hK (l.c - (k + 1)) _ _ (by omega) ⟨k + 1, _, rfl, rfl, by omega, by simpa using hl, ?_, rfl⟩
    rw [List.drop_set_of_lt (by omega)]
    intro z hz
    refine hys z ?_
    rw [List.drop_eq_getElem_cons hkl]
    exact List.mem_cons_of_mem _ hz
  · exact xdrop 0 (xret rfl)

theorem dev_some {p : Option Addr} {m : DM} {g : Frag} (h : DevObj p m g) : ∃ b, p = some ⟨b, 0, none⟩ := by
  obtain ⟨_, b, _, _, h, _⟩ := h
  exact ⟨b, h⟩

theorem body_le {m : DM} (hi : DInv m) (nm : ByteArray) : (readM m nm).1.length ≤ 16777216 := by
  unfold readM
  cases ht : thereL m.fs nm.toList with
  | false => simp
  | true =>
    obtain ⟨hf, _⟩ := getD_there (d := ⟨nm, [], 0⟩) ht
    have h1 := usedN_erase hf
    have h2 := hi.used
    have h3 := hi.room
    show (m.fs.getD (findL m.fs nm.toList) ⟨nm, [], 0⟩).b.length ≤ _
    omega

theorem Looks_spec (p q : Option Addr) (m : DM) : Ct Pr F_law12_Looks [.pointer p, .pointer q] .one [.bool] [DevObj p m, RefDev q m] emp (fun t Bs => t.1 = true ∧ Bs = [DevObj p m, RefDev q m]) := by
  refine spec1 c_law12_Looks fun B _ => ?_
  unfold law12_Looks
  refine xfact 0 (fun g hg => (⟨hg.1, dev_some hg⟩ : DInv m ∧ ∃ b, p = some ⟨b, 0, none⟩)) fun hi => ?_
  obtain ⟨hi, b, rfl⟩ := hi
  have hlen := hi.len
  refine xcl (Names2_spec (some ⟨b, 0, none⟩) m) rdb ?_
  rintro ⟨s, _⟩ _ ⟨zs, hzs, rfl⟩
  refine app2 (ca1 ?_)
  refine xcl (rNames_spec q m) rdb ?_
  rintro ⟨s1, _⟩ _ rfl
  refine app2 (ca1 ?_)
  refine xlen s1 fun h1n _ => ?_
  simp only [List.length_map] at h1n
  refine xcl (SameTexts_spec s s1 (m.fs.map (·.nm)) (m.fs.map (·.nm)) (by simp; omega)) (rds_and rdb rdb) ?_
  rintro ⟨c, _⟩ _ ⟨hc, rfl⟩
  obtain rfl : c = true := by simpa using hc
  refine app0 (ca1 (xjoin (xiff rfl ?_)))
  refine xcl (Used_spec (some ⟨b, 0, none⟩) m) rdb ?_
  rintro ⟨r, _⟩ _ ⟨hr, rfl⟩
  simp only at hr
  subst hr
  refine app1 (ca1 ?_)
  refine xcl (rUsed_spec q m) rdb ?_
  rintro ⟨r, _⟩ _ ⟨hr, rfl⟩
  simp only at hr
  subst hr
  refine app1 (ca1 (xjoin (xiff (by simp) ?_)))
  refine xcl (Free_spec (some ⟨b, 0, none⟩) m) rdb ?_
  rintro ⟨r, _⟩ _ ⟨hr, rfl⟩
  simp only at hr
  subst hr
  refine app1 (ca1 ?_)
  refine xcl (rFree_spec q m) rdb ?_
  rintro ⟨r, _⟩ _ ⟨hr, rfl⟩
  simp only at hr
  subst hr
  refine app1 (ca1 (xjoin (xiff (by simp) (xnil ?_))))
  refine xcl (Down_spec (some ⟨b, 0, none⟩) m) rdb ?_
  rintro ⟨r, _⟩ _ ⟨hr, rfl⟩
  simp only at hr
  subst hr
  refine app1 (ca1 ?_)
  refine xcl (rDown_spec q m) rdb ?_
  rintro ⟨r, _⟩ _ ⟨hr, rfl⟩
  simp only at hr
  subst hr
  refine app1 (ca1 (xiff (by simp) ?_))
  refine xcl (SpoilTexts_spec s (m.fs.map (·.nm)) zs (fun x hx => ?_)) rdb ?_
  · rcases List.mem_append.1 hx with h | h
    · obtain ⟨f, hf, rfl⟩ := List.mem_map.1 h
      have := hi.names f hf
      simp [namedB] at this
      omega
    · rw [hzs x h]; decide
  rintro _ _ rfl
  refine app0 (ca0 ?_)
  refine xuse [DevObj (some ⟨b, 0, none⟩) m, RefDev q m, Ar Cf.ST s1 (m.fs.map (·.nm))] ?_
  refine xloop1 (fun n i As => ∃ (k : Nat), i = (k : Int) ∧ n = m.fs.length - k ∧ k ≤ m.fs.length ∧ As = [DevObj (some ⟨b, 0, none⟩) m, RefDev q m, Ar Cf.ST s1 (m.fs.map (·.nm))]) m.fs.length ⟨0, rfl, rfl, by omega, rfl⟩ ?_
  rintro n _ _ K ⟨k, rfl, rfl, hk, rfl⟩ hK
  refine xif_dec (fun h => ?_) (fun h => ?_)
  · have hf := List.getElem?_eq_getElem (l := m.fs) (i := k) (by omega)
    have hrd := read_at hi.sorted hf
    have hbl := body_le hi m.fs[k].nm
    have hn : (m.fs.map fun f : DF => f.nm)[k]? = some m.fs[k].nm := by rw [List.getElem?_map, hf]; rfl
    rw [hrd] at hbl
    simp only at hbl
    generalize m.fs[k] = f at *
    refine xidxn (h1 := by simp; omega) (h := fun _ _ => ?_)
    refine xgetE hn (h := ?_)
    refine xcl (Read_spec (some ⟨b, 0, none⟩) m f.nm) rdb ?_
    rw [hrd]
    rintro ⟨s2, r4, _⟩ _ ⟨h4, rfl⟩
    obtain rfl : r4 = 0 := h4
    refine app2 (ca2 ?_)
    refine xidxn (h1 := by simp; omega) (h := fun _ _ => ?_)
    refine xgetE hn (h := ?_)
    refine xcl (Read_spec (some ⟨b, 0, none⟩) m f.nm) rdb ?_
    rw [hrd]
    rintro ⟨s3, r5, _⟩ _ ⟨h5, rfl⟩
    obtain rfl : r5 = 0 := h5
    refine app2 (ca2 ?_)
    refine xidxn (h1 := by simp; omega) (h := fun _ _ => ?_)
    refine xgetE hn (h := ?_)
    refine xcl (rRead_spec q m f.nm) rdb ?_
    rw [hrd]
    rintro ⟨s4, r6, _⟩ _ ⟨h6, rfl⟩
    obtain rfl : r6 = 0 := h6
    refine app2 (ca2 (xjoin (xiff rfl ?_)))
    refine xcl (SameBytes_spec s2 s4 f.b f.b (by omega)) (rds_and rdb rdb) ?_
    rintro ⟨c, _⟩ _ ⟨hc, rfl⟩
    obtain rfl : c = true := by simpa using hc
    refine app0 (ca1 (xjoin (xiff rfl ?_)))
    refine xcl (SameBytes_spec s3 s4 f.b f.b (by omega)) (rds_and rdb rdb) ?_
    rintro ⟨c, _⟩ _ ⟨hc, rfl⟩
    obtain rfl : c = true := by simpa using hc
    refine app0 (ca1 (xiff rfl ?_))
    refine xcl (SpoilBytes_spec s2 f.b) rdb ?_
    rintro _ _ rfl
    refine app0 (ca0 ?_)
    refine xcl (SameBytes_spec s3 s4 f.b f.b (by omega)) (rds_and rdb rdb) ?_
    rintro ⟨c, _⟩ _ ⟨hc, rfl⟩
    obtain rfl : c = true := by simpa using hc
    refine app0 (ca1 (xiff rfl ?_))
    rw [wrap_succ k (by omega)]
    exact xuse [DevObj (some ⟨b, 0, none⟩) m, RefDev q m, Ar Cf.ST s1 (m.fs.map (·.nm))] (hK (m.fs.length - (k + 1)) _ _ (by omega) ⟨k + 1, rfl, rfl, by omega, rfl⟩)
  · exact xuse [DevObj (some ⟨b, 0, none⟩) m, RefDev q m] (xret ⟨rfl, rfl⟩)

end Go.Cx
