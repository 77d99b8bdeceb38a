/-
  DeviceKnown: a device full of files.
-/
import Derived.Test.YtbdmjjeigbhidaaDU
import Derived.Test.YtbdmjjeigbhidaaCfY
import Derived.Laws.IdiomStrings
namespace Go.Cf
open Go
variable {B : Base} {As : List HP}

/-- string(b) -/
theorem xstr {P : Program} {t d e : TypeId} {s : Sl} {xs : List UInt8} {K : ByteArray → WP} [r : RdA B As s U8 xs] (h0 : 0 < xs.length) (hs : P.underlying t = some (.slice e)) (he : P.underlying e = some (.int .u8)) (hd : P.underlying d = some .string) (h : Ent B As (K ⟨xs.toArray⟩)) :
    Ent B As (XRun P (convert t d s.v) .str K) := by
  intro w hw
  obtain ⟨hn, _, hc⟩ := r.rd w hw
  obtain ⟨b, o, pre, post, e1, fr, hp, hb, ho⟩ := hc (by omega)
  obtain ⟨p, n, c⟩ := s
  simp only at hp hn
  subst hp hn
  refine ⟨⟨xs.toArray⟩, w, ?_, h w hw⟩
  have hb' : w.heap[b]? = some (.cells (pre ++ flat U8 xs ++ post).toArray e1 fr) := hb
  refine run_convert_bytes_back w t d e ⟨b, o, none⟩ c xs hs he hd fun j hj => ?_
  rw [add_none]
  simp only [World.cell?, hb']
  simp only [Option.isSome_none, Bool.false_eq_true, if_false, List.getElem?_toArray]
  have hl := flat_length U8 xs
  have hsz : U8.sz = 1 := rfl
  rw [List.append_assoc, List.getElem?_append_right (by omega), ho, Nat.add_sub_cancel_left, List.getElem?_append_left (by rw [hl, hsz]; omega), flat_u8, List.getElem?_eq_getElem hj]
  rfl
end Go.Cf

namespace Go.Cx
open Go Go.Cf
set_option linter.unusedVariables false
variable {B : Base} {As : List HP}

def kb (k : Nat) : ByteArray := ⟨#[UInt8.ofNat k]⟩
def iterM (k : Nat) : DM := (List.range k).foldl (fun m i => (appendM m (kb i) []).1) ⟨false, false, 0, 100, []⟩
def newB : ByteArray := ⟨#[110, 101, 119]⟩
theorem iter_succ (k : Nat) : iterM (k + 1) = (appendM (iterM k) (kb k) []).1 := by
  unfold iterM
  rw [List.range_succ, List.foldl_append]; rfl
def m1 : DM := (appendM (iterM 64) newB []).1
def m2 : DM := (appendM m1 (kb 5) [1]).1
def m3 : DM := (renameM m2 (kb 5) newB).1
def m4 : DM := (appendM m3 (kb 5) []).1
def m5 : DM := (removeM m4 (kb 6)).1
def m6 : DM := (appendM m5 (kb 5) []).1
theorem many0 : ∀ k : Nat, k < 64 → (appendM (iterM k) (kb k) []).2 = 0 := by decide +kernel
theorem many1 : (appendM (iterM 64) newB []).2 = 9 := by decide +kernel
theorem many2 : (appendM m1 (kb 5) [1]).2 = 0 := by decide +kernel
theorem many3 : (renameM m2 (kb 5) newB).2 = 0 := by decide +kernel
theorem many4 : (appendM m3 (kb 5) []).2 = 9 := by decide +kernel
theorem many5 : (removeM m4 (kb 6)).2 = 0 := by decide +kernel
theorem many6 : (appendM m5 (kb 5) []).2 = 0 := by decide +kernel
theorem many7 : m6.fs.length = 64 := by decide +kernel

theorem nil_read (F : List HP) : Rds B F (RAr U8 ⟨none, 0, 0⟩ []) := fun _ _ _ _ _ _ _ _ => (⟨rfl, rfl, fun h => absurd h (Nat.lt_irrefl 0)⟩ : RAr U8 ⟨none, 0, 0⟩ [] _)

theorem many_spec : Ct Pr F_law12_many [] .one [.bool] [] emp (fun t Bs => t.1 = true ∧ Bs = []) := by
  refine spec1 c_law12_many fun B _ => ?_
  unfold law12_many
  refine xcl (New_spec 100) rdb ?_
  rintro ⟨q, r, _⟩ _ (⟨h, _⟩ | ⟨_, _, h5, ⟨b, h4⟩, rfl⟩)
  · omega
  simp only at h4 h5
  subst h4 h5
  refine app1 (ca2 ?_)
  refine xloop1 (fun n i As => ∃ k : Nat, i = (k : Int) ∧ n = 64 - k ∧ k ≤ 64 ∧ As = [DevObj (some ⟨b, 0, none⟩) (iterM k)]) 64 ⟨0, rfl, rfl, by omega, rfl⟩ ?_
  rintro n _ _ K ⟨k, rfl, rfl, hk, rfl⟩ hK
  refine xif_dec (fun h => ?_) (fun h => ?_)
  · have hu : IntKind.u8.wrap (k : Int) = ((UInt8.ofNat k).toNat : Int) := by
      have : ∀ k : Nat, k < 64 → IntKind.u8.wrap (k : Int) = ((UInt8.ofNat k).toNat : Int) := by decide
      exact this k (by omega)
    rw [hu]
    refine xnew fun b1 => ?_
    refine xfold1 (Q := Ar U8 ⟨some ⟨b1, 0, none⟩, 1, 1⟩ [UInt8.ofNat k]) 0 (fun g hg => ⟨[], blk_ar [UInt8.ofNat k] 1 rfl rfl hg⟩) ?_
    refine xstr (s := ⟨some ⟨b1, 0, none⟩, 1, 1⟩) (e := 5) (by simp) (by kernel_rfl) (by kernel_rfl) (by kernel_rfl) (xdrop 0 ?_)
    refine xcl (Append_spec (some ⟨b, 0, none⟩) (iterM k) (kb k) ⟨none, 0, 0⟩ []) (nil_read _) ?_
    rintro ⟨r, _⟩ _ ⟨hr, rfl⟩
    simp only at hr
    rw [many0 k (by omega)] at hr
    subst hr
    refine app1 (ca1 (xiff rfl ?_))
    rw [← iter_succ, wrap_succ k (by omega)]
    exact hK (64 - (k + 1)) _ _ (by omega) ⟨k + 1, rfl, rfl, by omega, rfl⟩
  have hk64 : k = 64 := by omega
  subst hk64
  refine xcl (Append_spec (some ⟨b, 0, none⟩) (iterM 64) newB ⟨none, 0, 0⟩ []) (nil_read _) ?_
  rintro ⟨r, _⟩ _ ⟨hr, rfl⟩
  simp only at hr
  rw [many1] at hr
  subst hr
  rw [show (appendM (iterM 64) newB []).1 = m1 from rfl]
  refine app1 (ca1 (xjoin (xiff rfl (xnew fun b1 => ?_))))
  refine xfold1 (Q := Ar U8 ⟨some ⟨b1, 0, none⟩, 1, 1⟩ [1]) 0 (fun g hg => ⟨[], blk_ar [1] 1 rfl rfl hg⟩) ?_
  refine xcl (Append_spec (some ⟨b, 0, none⟩) m1 (kb 5) ⟨some ⟨b1, 0, none⟩, 1, 1⟩ [1]) rdb ?_
  rintro ⟨r, _⟩ _ ⟨hr, rfl⟩
  simp only at hr
  rw [many2] at hr
  subst hr
  rw [show (appendM m1 (kb 5) [1]).1 = m2 from rfl]
  refine app1 (ca1 (xjoin (xiff rfl (xdrop 1 ?_))))
  refine xcl (Rename_spec (some ⟨b, 0, none⟩) m2 (kb 5) newB) rdb ?_
  rintro ⟨r, _⟩ _ ⟨hr, rfl⟩
  simp only at hr
  rw [many3] at hr
  subst hr
  refine app1 (ca1 (xjoin (xiff rfl ?_)))
  rw [show (renameM m2 (kb 5) newB).1 = m3 from rfl]
  refine xcl (Append_spec (some ⟨b, 0, none⟩) m3 (kb 5) ⟨none, 0, 0⟩ []) (nil_read _) ?_
  rintro ⟨r, _⟩ _ ⟨hr, rfl⟩
  simp only at hr
  rw [many4] at hr
  subst hr
  refine app1 (ca1 (xiff rfl ?_))
  rw [show (appendM m3 (kb 5) []).1 = m4 from rfl]
  refine xcl (Remove_spec (some ⟨b, 0, none⟩) m4 (kb 6)) rdb ?_
  rintro ⟨r, _⟩ _ ⟨hr, rfl⟩
  simp only at hr
  rw [many5] at hr
  subst hr
  refine app1 (ca1 (xjoin (xift rfl ?_)))
  rw [show (removeM m4 (kb 6)).1 = m5 from rfl]
  refine xcl (Append_spec (some ⟨b, 0, none⟩) m5 (kb 5) ⟨none, 0, 0⟩ []) (nil_read _) ?_
  rintro ⟨r, _⟩ _ ⟨hr, rfl⟩
  simp only at hr
  rw [many6] at hr
  subst hr
  refine app1 (ca1 (xjoin (xift rfl ?_)))
  rw [show (appendM m5 (kb 5) []).1 = m6 from rfl]
  refine xcl (Names_spec (some ⟨b, 0, none⟩) m6) rdb ?_
  rintro ⟨s, _⟩ _ rfl
  refine app2 (ca1 ?_)
  refine xlen s fun hn _ => ?_
  rw [List.length_map, many7] at hn
  rw [← hn]
  exact xkeep (l := []) (xret ⟨rfl, rfl⟩)

end Go.Cx
