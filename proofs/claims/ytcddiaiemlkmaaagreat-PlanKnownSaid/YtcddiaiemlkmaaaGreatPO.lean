/-
  Tables and answers lent, kept, held against one another; values told apart. PlanValues.
-/
import Derived.Test.YtcddiaiemlkmaaaGreatT2
namespace Go.Cx
open Go Go.Cf
set_option linter.unusedVariables false
set_option maxRecDepth 100000
variable {B : Base} {As F : List HP} {α : Type}

theorem ba_beq (x : ByteArray) : (x == x) = true := by
  obtain ⟨d⟩ := x
  exact beq_self_eq_true d
theorem set_self {xs : List α} {k : Nat} {x : α} (h : xs[k]? = some x) : xs.set k x = xs := by
  obtain ⟨h1, h2⟩ := List.getElem?_eq_some_iff.1 h
  rw [← h2]; exact List.set_getElem_self h1
abbrev markT : Tag := ⟨⟨#[97, 32, 109, 97, 114, 107]⟩, 0, 0, 0, 0, false, false, false, 0, 0, 0, 0, 0, false, false, false, 0, 0, 0⟩

theorem LentTags_spec (l : Sl) (xs : List Tag) (hm : xs.length ≤ 4096) :
    Ct Pr F_kit_LentTags [l.v] .one [.slice] [] (RAr TG l xs) (fun t Bs => Bs = [Ars TG t.1 xs (List.replicate 5 markT)]) := by
  refine spec1 c_kit_LentTags fun B hr => ?_
  have fa : Fro B l TG xs := ⟨hr⟩
  have ha := hr.1
  unfold kit_LentTags
  rw [wrap_id ((l.n : Int) + 5) (by omega) (by omega)]
  refine xmake TG (by omega) (by omega) (h := fun b => ?_)
  have hn : ((l.n : Int) + 5).toNat = l.n + 5 := by omega
  rw [hn]
  refine xloop1 (fun n i As => ∃ (k : Nat) (ys : List Tag), i = (k : Int) ∧ n = xs.length - k ∧ k ≤ xs.length ∧ ys.length = xs.length + 5 ∧ (∀ j, j < k → ys[j]? = (xs ++ List.replicate 5 markT)[j]?) ∧ As = [Ar TG ⟨some ⟨b, 0, none⟩, l.n + 5, l.n + 5⟩ ys]) xs.length ⟨0, List.replicate (l.n + 5) tag0, rfl, rfl, by omega, by simp; omega, by intro j hj; omega, rfl⟩ ?_
  rintro n _ _ K ⟨k, ys, rfl, rfl, hk, hl, hys, rfl⟩ hK
  refine xif_dec (fun h => ?_) (fun h => ?_)
  · have hkl : k < ys.length := by omega
    refine xidxn (h1 := by omega) (h := fun x hx => ?_)
    refine xgetE hx (h := ?_)
    iterate 18 (refine xgetEj hx (h := ?_))
    refine xidxn (h1 := by omega) (h := fun y hy => ?_)
    refine xsetE (E := TG) (⟨x.name, y.unit, y.kind, y.addr, y.every, y.wide, y.sgn, y.swap, y.mul, y.div, y.add, y.dead, y.quiet, y.ulow, y.uhigh, y.latch, y.low, y.high, y.hyst⟩ : Tag) hy (hv := rfl) (h := ?_)
    refine xsetEj (E := TG) (⟨x.name, x.unit, y.kind, y.addr, y.every, y.wide, y.sgn, y.swap, y.mul, y.div, y.add, y.dead, y.quiet, y.ulow, y.uhigh, y.latch, y.low, y.high, y.hyst⟩ : Tag) (x := (⟨x.name, y.unit, y.kind, y.addr, y.every, y.wide, y.sgn, y.swap, y.mul, y.div, y.add, y.dead, y.quiet, y.ulow, y.uhigh, y.latch, y.low, y.high, y.hyst⟩ : Tag)) (by simp [hkl]) rfl (by decide) rfl (h := ?_)
    refine xsetEj (E := TG) (⟨x.name, x.unit, x.kind, y.addr, y.every, y.wide, y.sgn, y.swap, y.mul, y.div, y.add, y.dead, y.quiet, y.ulow, y.uhigh, y.latch, y.low, y.high, y.hyst⟩ : Tag) (x := (⟨x.name, x.unit, y.kind, y.addr, y.every, y.wide, y.sgn, y.swap, y.mul, y.div, y.add, y.dead, y.quiet, y.ulow, y.uhigh, y.latch, y.low, y.high, y.hyst⟩ : Tag)) (by simp [hkl]) rfl (by decide) rfl (h := ?_)
    refine xsetEj (E := TG) (⟨x.name, x.unit, x.kind, x.addr, y.every, y.wide, y.sgn, y.swap, y.mul, y.div, y.add, y.dead, y.quiet, y.ulow, y.uhigh, y.latch, y.low, y.high, y.hyst⟩ : Tag) (x := (⟨x.name, x.unit, x.kind, y.addr, y.every, y.wide, y.sgn, y.swap, y.mul, y.div, y.add, y.dead, y.quiet, y.ulow, y.uhigh, y.latch, y.low, y.high, y.hyst⟩ : Tag)) (by simp [hkl]) rfl (by decide) rfl (h := ?_)
    refine xsetEj (E := TG) (⟨x.name, x.unit, x.kind, x.addr, x.every, y.wide, y.sgn, y.swap, y.mul, y.div, y.add, y.dead, y.quiet, y.ulow, y.uhigh, y.latch, y.low, y.high, y.hyst⟩ : Tag) (x := (⟨x.name, x.unit, x.kind, x.addr, y.every, y.wide, y.sgn, y.swap, y.mul, y.div, y.add, y.dead, y.quiet, y.ulow, y.uhigh, y.latch, y.low, y.high, y.hyst⟩ : Tag)) (by simp [hkl]) rfl (by decide) rfl (h := ?_)
    refine xsetEj (E := TG) (⟨x.name, x.unit, x.kind, x.addr, x.every, x.wide, y.sgn, y.swap, y.mul, y.div, y.add, y.dead, y.quiet, y.ulow, y.uhigh, y.latch, y.low, y.high, y.hyst⟩ : Tag) (x := (⟨x.name, x.unit, x.kind, x.addr, x.every, y.wide, y.sgn, y.swap, y.mul, y.div, y.add, y.dead, y.quiet, y.ulow, y.uhigh, y.latch, y.low, y.high, y.hyst⟩ : Tag)) (by simp [hkl]) rfl (by decide) rfl (h := ?_)
    refine xsetEj (E := TG) (⟨x.name, x.unit, x.kind, x.addr, x.every, x.wide, x.sgn, y.swap, y.mul, y.div, y.add, y.dead, y.quiet, y.ulow, y.uhigh, y.latch, y.low, y.high, y.hyst⟩ : Tag) (x := (⟨x.name, x.unit, x.kind, x.addr, x.every, x.wide, y.sgn, y.swap, y.mul, y.div, y.add, y.dead, y.quiet, y.ulow, y.uhigh, y.latch, y.low, y.high, y.hyst⟩ : Tag)) (by simp [hkl]) rfl (by decide) rfl (h := ?_)
    refine xsetEj (E := TG) (⟨x.name, x.unit, x.kind, x.addr, x.every, x.wide, x.sgn, x.swap, y.mul, y.div, y.add, y.dead, y.quiet, y.ulow, y.uhigh, y.latch, y.low, y.high, y.hyst⟩ : Tag) (x := (⟨x.name, x.unit, x.kind, x.addr, x.every, x.wide, x.sgn, y.swap, y.mul, y.div, y.add, y.dead, y.quiet, y.ulow, y.uhigh, y.latch, y.low, y.high, y.hyst⟩ : Tag)) (by simp [hkl]) rfl (by decide) rfl (h := ?_)
    refine xsetEj (E := TG) (⟨x.name, x.unit, x.kind, x.addr, x.every, x.wide, x.sgn, x.swap, x.mul, y.div, y.add, y.dead, y.quiet, y.ulow, y.uhigh, y.latch, y.low, y.high, y.hyst⟩ : Tag) (x := (⟨x.name, x.unit, x.kind, x.addr, x.every, x.wide, x.sgn, x.swap, y.mul, y.div, y.add, y.dead, y.quiet, y.ulow, y.uhigh, y.latch, y.low, y.high, y.hyst⟩ : Tag)) (by simp [hkl]) rfl (by decide) rfl (h := ?_)
    refine xsetEj (E := TG) (⟨x.name, x.unit, x.kind, x.addr, x.every, x.wide, x.sgn, x.swap, x.mul, x.div, y.add, y.dead, y.quiet, y.ulow, y.uhigh, y.latch, y.low, y.high, y.hyst⟩ : Tag) (x := (⟨x.name, x.unit, x.kind, x.addr, x.every, x.wide, x.sgn, x.swap, x.mul, y.div, y.add, y.dead, y.quiet, y.ulow, y.uhigh, y.latch, y.low, y.high, y.hyst⟩ : Tag)) (by simp [hkl]) rfl (by decide) rfl (h := ?_)
    refine xsetEj (E := TG) (⟨x.name, x.unit, x.kind, x.addr, x.every, x.wide, x.sgn, x.swap, x.mul, x.div, x.add, y.dead, y.quiet, y.ulow, y.uhigh, y.latch, y.low, y.high, y.hyst⟩ : Tag) (x := (⟨x.name, x.unit, x.kind, x.addr, x.every, x.wide, x.sgn, x.swap, x.mul, x.div, y.add, y.dead, y.quiet, y.ulow, y.uhigh, y.latch, y.low, y.high, y.hyst⟩ : Tag)) (by simp [hkl]) rfl (by decide) rfl (h := ?_)
    refine xsetEj (E := TG) (⟨x.name, x.unit, x.kind, x.addr, x.every, x.wide, x.sgn, x.swap, x.mul, x.div, x.add, x.dead, y.quiet, y.ulow, y.uhigh, y.latch, y.low, y.high, y.hyst⟩ : Tag) (x := (⟨x.name, x.unit, x.kind, x.addr, x.every, x.wide, x.sgn, x.swap, x.mul, x.div, x.add, y.dead, y.quiet, y.ulow, y.uhigh, y.latch, y.low, y.high, y.hyst⟩ : Tag)) (by simp [hkl]) rfl (by decide) rfl (h := ?_)
    refine xsetEj (E := TG) (⟨x.name, x.unit, x.kind, x.addr, x.every, x.wide, x.sgn, x.swap, x.mul, x.div, x.add, x.dead, x.quiet, y.ulow, y.uhigh, y.latch, y.low, y.high, y.hyst⟩ : Tag) (x := (⟨x.name, x.unit, x.kind, x.addr, x.every, x.wide, x.sgn, x.swap, x.mul, x.div, x.add, x.dead, y.quiet, y.ulow, y.uhigh, y.latch, y.low, y.high, y.hyst⟩ : Tag)) (by simp [hkl]) rfl (by decide) rfl (h := ?_)
    refine xsetEj (E := TG) (⟨x.name, x.unit, x.kind, x.addr, x.every, x.wide, x.sgn, x.swap, x.mul, x.div, x.add, x.dead, x.quiet, x.ulow, y.uhigh, y.latch, y.low, y.high, y.hyst⟩ : Tag) (x := (⟨x.name, x.unit, x.kind, x.addr, x.every, x.wide, x.sgn, x.swap, x.mul, x.div, x.add, x.dead, x.quiet, y.ulow, y.uhigh, y.latch, y.low, y.high, y.hyst⟩ : Tag)) (by simp [hkl]) rfl (by decide) rfl (h := ?_)
    refine xsetEj (E := TG) (⟨x.name, x.unit, x.kind, x.addr, x.every, x.wide, x.sgn, x.swap, x.mul, x.div, x.add, x.dead, x.quiet, x.ulow, x.uhigh, y.latch, y.low, y.high, y.hyst⟩ : Tag) (x := (⟨x.name, x.unit, x.kind, x.addr, x.every, x.wide, x.sgn, x.swap, x.mul, x.div, x.add, x.dead, x.quiet, x.ulow, y.uhigh, y.latch, y.low, y.high, y.hyst⟩ : Tag)) (by simp [hkl]) rfl (by decide) rfl (h := ?_)
    refine xsetEj (E := TG) (⟨x.name, x.unit, x.kind, x.addr, x.every, x.wide, x.sgn, x.swap, x.mul, x.div, x.add, x.dead, x.quiet, x.ulow, x.uhigh, x.latch, y.low, y.high, y.hyst⟩ : Tag) (x := (⟨x.name, x.unit, x.kind, x.addr, x.every, x.wide, x.sgn, x.swap, x.mul, x.div, x.add, x.dead, x.quiet, x.ulow, x.uhigh, y.latch, y.low, y.high, y.hyst⟩ : Tag)) (by simp [hkl]) rfl (by decide) rfl (h := ?_)
    refine xsetEj (E := TG) (⟨x.name, x.unit, x.kind, x.addr, x.every, x.wide, x.sgn, x.swap, x.mul, x.div, x.add, x.dead, x.quiet, x.ulow, x.uhigh, x.latch, x.low, y.high, y.hyst⟩ : Tag) (x := (⟨x.name, x.unit, x.kind, x.addr, x.every, x.wide, x.sgn, x.swap, x.mul, x.div, x.add, x.dead, x.quiet, x.ulow, x.uhigh, x.latch, y.low, y.high, y.hyst⟩ : Tag)) (by simp [hkl]) rfl (by decide) rfl (h := ?_)
    refine xsetEj (E := TG) (⟨x.name, x.unit, x.kind, x.addr, x.every, x.wide, x.sgn, x.swap, x.mul, x.div, x.add, x.dead, x.quiet, x.ulow, x.uhigh, x.latch, x.low, x.high, y.hyst⟩ : Tag) (x := (⟨x.name, x.unit, x.kind, x.addr, x.every, x.wide, x.sgn, x.swap, x.mul, x.div, x.add, x.dead, x.quiet, x.ulow, x.uhigh, x.latch, x.low, y.high, y.hyst⟩ : Tag)) (by simp [hkl]) rfl (by decide) rfl (h := ?_)
    refine xsetEj (E := TG) (⟨x.name, x.unit, x.kind, x.addr, x.every, x.wide, x.sgn, x.swap, x.mul, x.div, x.add, x.dead, x.quiet, x.ulow, x.uhigh, x.latch, x.low, x.high, x.hyst⟩ : Tag) (x := (⟨x.name, x.unit, x.kind, x.addr, x.every, x.wide, x.sgn, x.swap, x.mul, x.div, x.add, x.dead, x.quiet, x.ulow, x.uhigh, x.latch, x.low, x.high, y.hyst⟩ : Tag)) (by simp [hkl]) rfl (by decide) rfl (h := ?_)
    simp only [List.set_set]
    rw [wrap_succ k (by omega)]
    refine hK (xs.length - (k + 1)) _ _ (by omega) ⟨k + 1, ys.set k x, rfl, rfl, by omega, by simpa using hl, set_upto hys (by omega) ?_, rfl⟩
    rw [List.getElem?_append_left (by omega), hx]
  have hk' : k = xs.length := by omega
  subst hk'
  refine xloop1 (fun n i As => ∃ (k : Nat) (ys : List Tag), i = (k : Int) ∧ n = xs.length + 5 - k ∧ xs.length ≤ k ∧ k ≤ xs.length + 5 ∧ ys.length = xs.length + 5 ∧ (∀ j, j < k → ys[j]? = (xs ++ List.replicate 5 markT)[j]?) ∧ As = [Ar TG ⟨some ⟨b, 0, none⟩, l.n + 5, l.n + 5⟩ ys]) 5 ⟨xs.length, ys, by rw [ha], by omega, by omega, by omega, hl, hys, rfl⟩ ?_
  clear hys hl
  rintro n _ _ K' ⟨k, ys, rfl, rfl, hk0, hk, hl, hys, rfl⟩ hK'
  refine xif_dec (fun h => ?_) (fun h => ?_)
  · simp only at h
    have hkl : k < ys.length := by omega
    refine xidxn (h1 := by omega) (h := fun y hy => ?_)
    refine xsetE (E := TG) (⟨markT.name, y.unit, y.kind, y.addr, y.every, y.wide, y.sgn, y.swap, y.mul, y.div, y.add, y.dead, y.quiet, y.ulow, y.uhigh, y.latch, y.low, y.high, y.hyst⟩ : Tag) hy (hv := rfl) (h := ?_)
    refine xsetEj (E := TG) (⟨markT.name, markT.unit, y.kind, y.addr, y.every, y.wide, y.sgn, y.swap, y.mul, y.div, y.add, y.dead, y.quiet, y.ulow, y.uhigh, y.latch, y.low, y.high, y.hyst⟩ : Tag) (x := (⟨markT.name, y.unit, y.kind, y.addr, y.every, y.wide, y.sgn, y.swap, y.mul, y.div, y.add, y.dead, y.quiet, y.ulow, y.uhigh, y.latch, y.low, y.high, y.hyst⟩ : Tag)) (by simp [hkl]) rfl (by decide) rfl (h := ?_)
    refine xsetEj (E := TG) (⟨markT.name, markT.unit, markT.kind, y.addr, y.every, y.wide, y.sgn, y.swap, y.mul, y.div, y.add, y.dead, y.quiet, y.ulow, y.uhigh, y.latch, y.low, y.high, y.hyst⟩ : Tag) (x := (⟨markT.name, markT.unit, y.kind, y.addr, y.every, y.wide, y.sgn, y.swap, y.mul, y.div, y.add, y.dead, y.quiet, y.ulow, y.uhigh, y.latch, y.low, y.high, y.hyst⟩ : Tag)) (by simp [hkl]) rfl (by decide) rfl (h := ?_)
    refine xsetEj (E := TG) (⟨markT.name, markT.unit, markT.kind, markT.addr, y.every, y.wide, y.sgn, y.swap, y.mul, y.div, y.add, y.dead, y.quiet, y.ulow, y.uhigh, y.latch, y.low, y.high, y.hyst⟩ : Tag) (x := (⟨markT.name, markT.unit, markT.kind, y.addr, y.every, y.wide, y.sgn, y.swap, y.mul, y.div, y.add, y.dead, y.quiet, y.ulow, y.uhigh, y.latch, y.low, y.high, y.hyst⟩ : Tag)) (by simp [hkl]) rfl (by decide) rfl (h := ?_)
    refine xsetEj (E := TG) (⟨markT.name, markT.unit, markT.kind, markT.addr, markT.every, y.wide, y.sgn, y.swap, y.mul, y.div, y.add, y.dead, y.quiet, y.ulow, y.uhigh, y.latch, y.low, y.high, y.hyst⟩ : Tag) (x := (⟨markT.name, markT.unit, markT.kind, markT.addr, y.every, y.wide, y.sgn, y.swap, y.mul, y.div, y.add, y.dead, y.quiet, y.ulow, y.uhigh, y.latch, y.low, y.high, y.hyst⟩ : Tag)) (by simp [hkl]) rfl (by decide) rfl (h := ?_)
    refine xsetEj (E := TG) (⟨markT.name, markT.unit, markT.kind, markT.addr, markT.every, markT.wide, y.sgn, y.swap, y.mul, y.div, y.add, y.dead, y.quiet, y.ulow, y.uhigh, y.latch, y.low, y.high, y.hyst⟩ : Tag) (x := (⟨markT.name, markT.unit, markT.kind, markT.addr, markT.every, y.wide, y.sgn, y.swap, y.mul, y.div, y.add, y.dead, y.quiet, y.ulow, y.uhigh, y.latch, y.low, y.high, y.hyst⟩ : Tag)) (by simp [hkl]) rfl (by decide) rfl (h := ?_)
    refine xsetEj (E := TG) (⟨markT.name, markT.unit, markT.kind, markT.addr, markT.every, markT.wide, markT.sgn, y.swap, y.mul, y.div, y.add, y.dead, y.quiet, y.ulow, y.uhigh, y.latch, y.low, y.high, y.hyst⟩ : Tag) (x := (⟨markT.name, markT.unit, markT.kind, markT.addr, markT.every, markT.wide, y.sgn, y.swap, y.mul, y.div, y.add, y.dead, y.quiet, y.ulow, y.uhigh, y.latch, y.low, y.high, y.hyst⟩ : Tag)) (by simp [hkl]) rfl (by decide) rfl (h := ?_)
    refine xsetEj (E := TG) (⟨markT.name, markT.unit, markT.kind, markT.addr, markT.every, markT.wide, markT.sgn, markT.swap, y.mul, y.div, y.add, y.dead, y.quiet, y.ulow, y.uhigh, y.latch, y.low, y.high, y.hyst⟩ : Tag) (x := (⟨markT.name, markT.unit, markT.kind, markT.addr, markT.every, markT.wide, markT.sgn, y.swap, y.mul, y.div, y.add, y.dead, y.quiet, y.ulow, y.uhigh, y.latch, y.low, y.high, y.hyst⟩ : Tag)) (by simp [hkl]) rfl (by decide) rfl (h := ?_)
    refine xsetEj (E := TG) (⟨markT.name, markT.unit, markT.kind, markT.addr, markT.every, markT.wide, markT.sgn, markT.swap, markT.mul, y.div, y.add, y.dead, y.quiet, y.ulow, y.uhigh, y.latch, y.low, y.high, y.hyst⟩ : Tag) (x := (⟨markT.name, markT.unit, markT.kind, markT.addr, markT.every, markT.wide, markT.sgn, markT.swap, y.mul, y.div, y.add, y.dead, y.quiet, y.ulow, y.uhigh, y.latch, y.low, y.high, y.hyst⟩ : Tag)) (by simp [hkl]) rfl (by decide) rfl (h := ?_)
    refine xsetEj (E := TG) (⟨markT.name, markT.unit, markT.kind, markT.addr, markT.every, markT.wide, markT.sgn, markT.swap, markT.mul, markT.div, y.add, y.dead, y.quiet, y.ulow, y.uhigh, y.latch, y.low, y.high, y.hyst⟩ : Tag) (x := (⟨markT.name, markT.unit, markT.kind, markT.addr, markT.every, markT.wide, markT.sgn, markT.swap, markT.mul, y.div, y.add, y.dead, y.quiet, y.ulow, y.uhigh, y.latch, y.low, y.high, y.hyst⟩ : Tag)) (by simp [hkl]) rfl (by decide) rfl (h := ?_)
    refine xsetEj (E := TG) (⟨markT.name, markT.unit, markT.kind, markT.addr, markT.every, markT.wide, markT.sgn, markT.swap, markT.mul, markT.div, markT.add, y.dead, y.quiet, y.ulow, y.uhigh, y.latch, y.low, y.high, y.hyst⟩ : Tag) (x := (⟨markT.name, markT.unit, markT.kind, markT.addr, markT.every, markT.wide, markT.sgn, markT.swap, markT.mul, markT.div, y.add, y.dead, y.quiet, y.ulow, y.uhigh, y.latch, y.low, y.high, y.hyst⟩ : Tag)) (by simp [hkl]) rfl (by decide) rfl (h := ?_)
    refine xsetEj (E := TG) (⟨markT.name, markT.unit, markT.kind, markT.addr, markT.every, markT.wide, markT.sgn, markT.swap, markT.mul, markT.div, markT.add, markT.dead, y.quiet, y.ulow, y.uhigh, y.latch, y.low, y.high, y.hyst⟩ : Tag) (x := (⟨markT.name, markT.unit, markT.kind, markT.addr, markT.every, markT.wide, markT.sgn, markT.swap, markT.mul, markT.div, markT.add, y.dead, y.quiet, y.ulow, y.uhigh, y.latch, y.low, y.high, y.hyst⟩ : Tag)) (by simp [hkl]) rfl (by decide) rfl (h := ?_)
    refine xsetEj (E := TG) (⟨markT.name, markT.unit, markT.kind, markT.addr, markT.every, markT.wide, markT.sgn, markT.swap, markT.mul, markT.div, markT.add, markT.dead, markT.quiet, y.ulow, y.uhigh, y.latch, y.low, y.high, y.hyst⟩ : Tag) (x := (⟨markT.name, markT.unit, markT.kind, markT.addr, markT.every, markT.wide, markT.sgn, markT.swap, markT.mul, markT.div, markT.add, markT.dead, y.quiet, y.ulow, y.uhigh, y.latch, y.low, y.high, y.hyst⟩ : Tag)) (by simp [hkl]) rfl (by decide) rfl (h := ?_)
    refine xsetEj (E := TG) (⟨markT.name, markT.unit, markT.kind, markT.addr, markT.every, markT.wide, markT.sgn, markT.swap, markT.mul, markT.div, markT.add, markT.dead, markT.quiet, markT.ulow, y.uhigh, y.latch, y.low, y.high, y.hyst⟩ : Tag) (x := (⟨markT.name, markT.unit, markT.kind, markT.addr, markT.every, markT.wide, markT.sgn, markT.swap, markT.mul, markT.div, markT.add, markT.dead, markT.quiet, y.ulow, y.uhigh, y.latch, y.low, y.high, y.hyst⟩ : Tag)) (by simp [hkl]) rfl (by decide) rfl (h := ?_)
    refine xsetEj (E := TG) (⟨markT.name, markT.unit, markT.kind, markT.addr, markT.every, markT.wide, markT.sgn, markT.swap, markT.mul, markT.div, markT.add, markT.dead, markT.quiet, markT.ulow, markT.uhigh, y.latch, y.low, y.high, y.hyst⟩ : Tag) (x := (⟨markT.name, markT.unit, markT.kind, markT.addr, markT.every, markT.wide, markT.sgn, markT.swap, markT.mul, markT.div, markT.add, markT.dead, markT.quiet, markT.ulow, y.uhigh, y.latch, y.low, y.high, y.hyst⟩ : Tag)) (by simp [hkl]) rfl (by decide) rfl (h := ?_)
    refine xsetEj (E := TG) (⟨markT.name, markT.unit, markT.kind, markT.addr, markT.every, markT.wide, markT.sgn, markT.swap, markT.mul, markT.div, markT.add, markT.dead, markT.quiet, markT.ulow, markT.uhigh, markT.latch, y.low, y.high, y.hyst⟩ : Tag) (x := (⟨markT.name, markT.unit, markT.kind, markT.addr, markT.every, markT.wide, markT.sgn, markT.swap, markT.mul, markT.div, markT.add, markT.dead, markT.quiet, markT.ulow, markT.uhigh, y.latch, y.low, y.high, y.hyst⟩ : Tag)) (by simp [hkl]) rfl (by decide) rfl (h := ?_)
    refine xsetEj (E := TG) (⟨markT.name, markT.unit, markT.kind, markT.addr, markT.every, markT.wide, markT.sgn, markT.swap, markT.mul, markT.div, markT.add, markT.dead, markT.quiet, markT.ulow, markT.uhigh, markT.latch, markT.low, y.high, y.hyst⟩ : Tag) (x := (⟨markT.name, markT.unit, markT.kind, markT.addr, markT.every, markT.wide, markT.sgn, markT.swap, markT.mul, markT.div, markT.add, markT.dead, markT.quiet, markT.ulow, markT.uhigh, markT.latch, y.low, y.high, y.hyst⟩ : Tag)) (by simp [hkl]) rfl (by decide) rfl (h := ?_)
    refine xsetEj (E := TG) (⟨markT.name, markT.unit, markT.kind, markT.addr, markT.every, markT.wide, markT.sgn, markT.swap, markT.mul, markT.div, markT.add, markT.dead, markT.quiet, markT.ulow, markT.uhigh, markT.latch, markT.low, markT.high, y.hyst⟩ : Tag) (x := (⟨markT.name, markT.unit, markT.kind, markT.addr, markT.every, markT.wide, markT.sgn, markT.swap, markT.mul, markT.div, markT.add, markT.dead, markT.quiet, markT.ulow, markT.uhigh, markT.latch, markT.low, y.high, y.hyst⟩ : Tag)) (by simp [hkl]) rfl (by decide) rfl (h := ?_)
    refine xsetEj (E := TG) (⟨markT.name, markT.unit, markT.kind, markT.addr, markT.every, markT.wide, markT.sgn, markT.swap, markT.mul, markT.div, markT.add, markT.dead, markT.quiet, markT.ulow, markT.uhigh, markT.latch, markT.low, markT.high, markT.hyst⟩ : Tag) (x := (⟨markT.name, markT.unit, markT.kind, markT.addr, markT.every, markT.wide, markT.sgn, markT.swap, markT.mul, markT.div, markT.add, markT.dead, markT.quiet, markT.ulow, markT.uhigh, markT.latch, markT.low, markT.high, y.hyst⟩ : Tag)) (by simp [hkl]) rfl (by decide) rfl (h := ?_)
    simp only [List.set_set]
    rw [wrap_succ k (by omega)]
    refine hK' (xs.length + 5 - (k + 1)) _ _ (by omega) ⟨k + 1, ys.set k markT, rfl, rfl, by omega, by omega, by simpa using hl, set_upto hys (by omega) ?_, rfl⟩
    rw [List.getElem?_append_right (by omega), List.getElem?_replicate, if_pos (by omega)]
  simp only at h
  obtain rfl : ys = xs ++ List.replicate 5 markT := eq_upto (by simp [hl]) (fun j hj => hys j (by simp at hj; omega))
  refine xslc0 rfl (by omega) (by simp only; omega) ?_
  refine xars 0 fun zs h1 h2 => ?_
  have : zs = [] := List.eq_nil_of_length_eq_zero (by simp only [List.length_append, List.length_replicate] at h1 h2; omega)
  subst this
  refine xshift l.n xs (List.replicate 5 markT) (by simp) ha ?_
  rw [Int.toNat_natCast]
  exact xret rfl

theorem LentInts_spec (l : Sl) (xs : List Int) (hm : xs.length ≤ 4096) :
    Ct Pr F_kit_LentInts [l.v] .one [.slice] [] (RAr I64 l xs) (fun t Bs => Bs = [Ars I64 t.1 xs (List.replicate 5 (-77))]) := by
  refine spec1 c_kit_LentInts fun B hr => ?_
  have fa : Fro B l I64 xs := ⟨hr⟩
  have ha := hr.1
  unfold kit_LentInts
  rw [wrap_id ((l.n : Int) + 5) (by omega) (by omega)]
  refine xmake I64 (by omega) (by omega) (h := fun b => ?_)
  have hn : ((l.n : Int) + 5).toNat = l.n + 5 := by omega
  rw [hn]
  refine xloop1 (fun n i As => ∃ (k : Nat) (ys : List Int), i = (k : Int) ∧ n = xs.length - k ∧ k ≤ xs.length ∧ ys.length = xs.length + 5 ∧ (∀ j, j < k → ys[j]? = (xs ++ List.replicate 5 (-77))[j]?) ∧ As = [Ar I64 ⟨some ⟨b, 0, none⟩, l.n + 5, l.n + 5⟩ ys]) xs.length ⟨0, List.replicate (l.n + 5) 0, rfl, rfl, by omega, by simp; omega, by intro j hj; omega, rfl⟩ ?_
  rintro n _ _ K ⟨k, ys, rfl, rfl, hk, hl, hys, rfl⟩ hK
  refine xif_dec (fun h => ?_) (fun h => ?_)
  · have hkl : k < ys.length := by omega
    refine xidxn (h1 := by omega) (h := fun x hx => ?_)
    refine xgetE hx (h := ?_)
    refine xidxn (h1 := by omega) (h := fun y hy => ?_)
    refine xsetE x hy (hv := rfl) (h := ?_)
    rw [wrap_succ k (by omega)]
    refine hK (xs.length - (k + 1)) _ _ (by omega) ⟨k + 1, ys.set k x, rfl, rfl, by omega, by simpa using hl, set_upto hys (by omega) ?_, rfl⟩
    rw [List.getElem?_append_left (by omega), hx]
  have hk' : k = xs.length := by omega
  subst hk'
  refine xloop1 (fun n i As => ∃ (k : Nat) (ys : List Int), i = (k : Int) ∧ n = xs.length + 5 - k ∧ xs.length ≤ k ∧ k ≤ xs.length + 5 ∧ ys.length = xs.length + 5 ∧ (∀ j, j < k → ys[j]? = (xs ++ List.replicate 5 (-77))[j]?) ∧ As = [Ar I64 ⟨some ⟨b, 0, none⟩, l.n + 5, l.n + 5⟩ ys]) 5 ⟨xs.length, ys, by rw [ha], by omega, by omega, by omega, hl, hys, rfl⟩ ?_
  clear hys hl
  rintro n _ _ K' ⟨k, ys, rfl, rfl, hk0, hk, hl, hys, rfl⟩ hK'
  refine xif_dec (fun h => ?_) (fun h => ?_)
  · simp only at h
    have hkl : k < ys.length := by omega
    refine xidxn (h1 := by omega) (h := fun y hy => ?_)
    refine xsetE ((-77)) hy (hv := rfl) (h := ?_)
    rw [wrap_succ k (by omega)]
    refine hK' (xs.length + 5 - (k + 1)) _ _ (by omega) ⟨k + 1, ys.set k (-77), rfl, rfl, by omega, by omega, by simpa using hl, set_upto hys (by omega) ?_, rfl⟩
    rw [List.getElem?_append_right (by omega), List.getElem?_replicate, if_pos (by omega)]
  simp only at h
  obtain rfl : ys = xs ++ List.replicate 5 (-77) := eq_upto (by simp [hl]) (fun j hj => hys j (by simp at hj; omega))
  refine xslc0 rfl (by omega) (by simp only; omega) ?_
  refine xars 0 fun zs h1 h2 => ?_
  have : zs = [] := List.eq_nil_of_length_eq_zero (by simp only [List.length_append, List.length_replicate] at h1 h2; omega)
  subst this
  refine xshift l.n xs (List.replicate 5 (-77)) (by simp) ha ?_
  rw [Int.toNat_natCast]
  exact xret rfl

theorem SameTags_spec (a b : Sl) (xs : List Tag) (hb : xs.length ≤ 1000000) : Ct Pr F_kit_SameTags [a.v, b.v] .one [.bool] [] ((RAr TG a xs).and (RAr TG b xs)) (fun t Bs => t.1 = true ∧ Bs = []) := by
  refine spec1 c_kit_SameTags fun B hr => ?_
  haveI : Fro B a TG xs := ⟨hr.1⟩
  have h1 := hr.1.1
  have h2 := hr.2.1
  unfold kit_SameTags
  refine xiff (by rw [← h1, ← h2]; simp) ?_
  refine xloop1 (fun n (x : Int) As' => ∃ k : Nat, x = (k : Int) ∧ n = xs.length - k ∧ k ≤ xs.length ∧ As' = []) xs.length ⟨0, rfl, by omega, by omega, rfl⟩ ?_
  rintro n x As' K ⟨k, rfl, rfl, hk, rfl⟩ hK
  refine xif_dec (fun hp => xdraw ?_) (fun hp => xret ⟨rfl, rfl⟩)
  refine xidxn (h1 := by omega) (h := fun x hx => ?_)
  refine xgetE hx (h := ?_)
  iterate 18 (refine xgetEj hx (h := ?_))
  haveI : Fro B b TG xs := ⟨hr.2⟩
  refine xidxn (h1 := by omega) (h := fun y hy => ?_)
  obtain rfl : x = y := by rw [hx] at hy; cases hy; rfl
  refine xgetE hx (h := ?_)
  iterate 18 (refine xgetEj hx (h := ?_))
  refine xiff (by simp [ba_beq]) ?_
  rw [wrap_succ k (by omega)]
  exact hK _ _ _ (by omega) ⟨k + 1, rfl, rfl, by omega, rfl⟩

theorem KeptTags_spec (l m : Sl) (xs : List Tag) (hm : xs.length ≤ 4096) :
    Ct Pr F_kit_KeptTags [l.v, m.v] .one [.bool] [] ((RArs TG l xs (List.replicate 5 markT)).and (RAr TG m xs)) (fun t Bs => t.1 = true ∧ Bs = []) := by
  refine spec1 c_kit_KeptTags fun B hr => ?_
  obtain ⟨⟨h1, h2, h3, h4⟩, h5⟩ := hr
  have fa : Fro B l TG xs := ⟨h3⟩
  have fb : Fro B m TG xs := ⟨h5⟩
  have fc : Fro B ⟨l.p, l.c, l.c⟩ TG (xs ++ List.replicate 5 markT) := ⟨h4⟩
  have hmn := h5.1
  rw [List.length_replicate] at h2
  unfold kit_KeptTags
  refine xcall0 (SameTags_spec l m xs (by omega)) rdb ?_
  rintro ⟨c, _⟩ _ ⟨hc, rfl⟩
  obtain rfl : c = true := hc
  rw [wrap_id ((m.n : Int) + 5) (by omega) (by omega)]
  refine app0 (ca1 (xjoin (xiff rfl (xif_dec (fun h => absurd h (by omega)) (fun h => ?_)))))
  refine xslc0 rfl (by omega) (by omega) ?_
  have e : ((m.n : Int) + 5).toNat = l.c := by omega
  rw [e]
  refine xloop1 (fun n i As => ∃ k : Nat, i = (k : Int) ∧ n = l.c - k ∧ xs.length ≤ k ∧ k ≤ l.c ∧ As = []) 5 ⟨xs.length, by rw [hmn], by omega, by omega, by omega, rfl⟩ ?_
  rintro n _ _ K ⟨k, rfl, rfl, hk0, hk, rfl⟩ hK
  refine xif_dec (fun h => ?_) (fun h => ?_)
  · simp only at h
    refine xidxn (h1 := by simp; omega) (h := fun y hy => ?_)
    have : y = markT := by
      have hy' := hy
      rw [List.getElem?_append_right (by omega), List.getElem?_replicate, if_pos (by omega)] at hy'
      exact (Option.some.inj hy').symm
    subst this
    refine xgetE hy (h := ?_)
    iterate 18 (refine xgetEj hy (h := ?_))
    refine xiff (by simp [ba_beq]) ?_
    rw [wrap_succ k (by omega)]
    exact hK (l.c - (k + 1)) _ _ (by omega) ⟨k + 1, rfl, rfl, by omega, by omega, rfl⟩
  · exact xret ⟨rfl, rfl⟩

theorem CopyBools_spec (s : Sl) (ws : List Bool) (hb : ws.length ≤ 1000000) : Ct Pr F_kit_CopyBools [s.v] .one [.slice] [] (RAr BL s ws) (fun t Bs => Bs = [Ar BL t.1 ws]) := by
  refine spec1 c_kit_CopyBools fun B hr => ?_
  haveI : Fro B s BL ws := ⟨hr⟩
  have hn := hr.1
  unfold kit_CopyBools
  refine xnone BL ?_
  refine xloop2 (fun n (out : Sl) (x : Int) As' => ∃ k : Nat, x = (k : Int) ∧ n = ws.length - k ∧ k ≤ ws.length ∧ As' = [Ar BL out (ws.take k)]) ws.length ⟨0, rfl, by omega, by omega, by simp⟩ ?_
  rintro n out x As' K ⟨k, rfl, rfl, hk, rfl⟩ hK
  refine xif_dec (fun hp => ?_) (fun hp => ?_)
  · refine xidxn (h1 := by omega) (h := fun x hx => ?_)
    refine xgetE hx (h := xnew fun b => ?_)
    refine xapp1 (E := BL) x (hb := by simp; omega) (h := fun s' => ?_)
    rw [wrap_succ k (by omega), take_snoc hx]
    exact hK _ _ _ _ (by omega) ⟨k + 1, rfl, rfl, by omega, rfl⟩
  · obtain rfl : k = ws.length := by omega
    rw [List.take_length]
    exact xret rfl

theorem CopyInts_spec (s : Sl) (ws : List Int) (hb : ws.length ≤ 1000000) : Ct Pr F_kit_CopyInts [s.v] .one [.slice] [] (RAr I64 s ws) (fun t Bs => Bs = [Ar I64 t.1 ws]) := by
  refine spec1 c_kit_CopyInts fun B hr => ?_
  haveI : Fro B s I64 ws := ⟨hr⟩
  have hn := hr.1
  unfold kit_CopyInts
  refine xnone I64 ?_
  refine xloop2 (fun n (out : Sl) (x : Int) As' => ∃ k : Nat, x = (k : Int) ∧ n = ws.length - k ∧ k ≤ ws.length ∧ As' = [Ar I64 out (ws.take k)]) ws.length ⟨0, rfl, by omega, by omega, by simp⟩ ?_
  rintro n out x As' K ⟨k, rfl, rfl, hk, rfl⟩ hK
  refine xif_dec (fun hp => ?_) (fun hp => ?_)
  · refine xidxn (h1 := by omega) (h := fun x hx => ?_)
    refine xgetE hx (h := xnew fun b => ?_)
    refine xapp1 (E := I64) x (hb := by simp; omega) (h := fun s' => ?_)
    rw [wrap_succ k (by omega), take_snoc hx]
    exact hK _ _ _ _ (by omega) ⟨k + 1, rfl, rfl, by omega, rfl⟩
  · obtain rfl : k = ws.length := by omega
    rw [List.take_length]
    exact xret rfl

theorem SpoilInts_spec (l : Sl) (xs : List Int) : Ct Pr F_kit_SpoilInts [l.v] (.tup []) [] [Ar I64 l xs] emp (fun t Bs => ∃ ys : List Int, ys.length = xs.length ∧ Bs = [Ar I64 l ys]) := by
  refine spec0 c_kit_SpoilInts fun B _ => ?_
  unfold kit_SpoilInts
  refine xslc0 rfl (by omega) (by omega) ?_
  rw [Int.toNat_natCast]
  refine xars 0 fun zs h1 h2 => ?_
  refine xfact 0 (fun g hg => hg.cap_le) fun hM => ?_
  refine xshift l.c (xs ++ zs) [] (by simp) (by simpa using h2) (xar ?_)
  refine xloop1 (fun n i As => ∃ (k : Nat) (ys : List Int), i = (k : Int) ∧ n = l.c - k ∧ k ≤ l.c ∧ ys.length = l.c ∧ As = [Ar I64 ⟨l.p, l.c, l.c⟩ ys]) l.c ⟨0, xs ++ zs, rfl, rfl, by omega, by simpa using h2, rfl⟩ ?_
  rintro n _ _ K ⟨k, ys, rfl, rfl, hk, hl, rfl⟩ hK
  refine xif_dec (fun h => ?_) (fun h => ?_)
  · simp only at h
    refine xidxn (h1 := by omega) (h := fun y hy => ?_)
    refine xgetE hy (h := ?_)
    refine xidxn (h1 := by omega) (h := fun y' _ => ?_)
    refine xsetE (bits .xor .i64 y 77) hy (hv := rfl) (h := ?_)
    rw [wrap_succ k (by omega)]
    exact hK (l.c - (k + 1)) _ _ (by omega) ⟨k + 1, _, rfl, rfl, by omega, by simpa using hl, rfl⟩
  · refine xars 0 fun zs' h1' h2' => ?_
    have hz' : zs' = [] := List.eq_nil_of_length_eq_zero (by simp only at h2'; omega)
    subst hz'
    refine xshift l.n (ys.take l.n) (ys.drop l.n) (by simp) (by simp; omega) (xar ?_)
    exact xret ⟨ys.take l.n, by simp; omega, rfl⟩

/-- Values, each spoilt as the others are looked at. -/
theorem ApartInts_spec (l : Sl) (ss : List Sl) (xss : List (List Int)) (hn : ss.length ≤ 1000) (hb : ∀ xs ∈ xss, xs.length ≤ 1000000) :
    Ct Pr F_kit_ApartInts [l.v] .one [.bool] [Ar SL l ss, Each (Ar I64) ss xss] emp (fun t Bs => t.1 = true ∧ Bs = []) := by
  refine spec1 c_kit_ApartInts fun B _ => ?_
  unfold kit_ApartInts
  refine xlen l (fun hln _ => ?_)
  refine xfact 1 (fun g hg => hg.length) fun hsx => ?_
  let I : List HP → Prop := fun As' => ∃ yss : List (List Int), yss.length = ss.length ∧ (∀ xs ∈ yss, xs.length ≤ 1000000) ∧ As' = [Ar SL l ss, Each (Ar I64) ss yss]
  refine xloop1 (fun n (x : Int) As' => ∃ i : Nat, x = (i : Int) ∧ n = ss.length - i ∧ i ≤ ss.length ∧ I As') ss.length ⟨0, rfl, by omega, by omega, xss, hsx.symm, hb, rfl⟩ ?_
  rintro n x As' K ⟨i, rfl, rfl, hi, hI⟩ hK
  refine xif_dec (fun hp => ?_) (fun hp => xkeep (l := []) (xret ⟨rfl, rfl⟩))
  have hp : i < ss.length := by omega
  refine xloop1 (fun n (x : Int) As' => ∃ k : Nat, x = (k : Int) ∧ n = ss.length - k ∧ k ≤ ss.length ∧ I As') ss.length ⟨0, rfl, by omega, by omega, hI⟩ ?_
  rintro n x As2 K1 ⟨k, rfl, rfl, hk, yss, hyl, hyb, rfl⟩ hK1
  refine xif_dec (fun hq => ?_) (fun hq => ?_)
  rotate_left
  · rw [wrap_succ i (by omega)]
    exact hK _ _ _ (by omega) ⟨i + 1, rfl, rfl, by omega, yss, hyl, hyb, rfl⟩
  have hq : k < ss.length := by omega
  have next : ∀ yss' : List (List Int), yss'.length = ss.length → (∀ xs ∈ yss', xs.length ≤ 1000000) → Ent B [Ar SL l ss, Each (Ar I64) ss yss'] (K1 (IntKind.i64.wrap ((k : Int) + 1))) := fun yss' h1 h2 => by
    rw [wrap_succ k (by omega)]
    exact hK1 _ _ _ (by omega) ⟨k + 1, rfl, rfl, by omega, yss', h1, h2, rfl⟩
  refine xjoin (xif (fun he => next yss hyl hyb) (fun he => ?_))
  have hik : i ≠ k := fun h => by subst h; simp at he
  refine xidxn (h1 := hq) (h := fun sk hsk => ?_)
  refine xgetE hsk (h := ?_)
  obtain ⟨yk, hyk⟩ : ∃ yk, yss[k]? = some yk := ⟨_, List.getElem?_eq_getElem (by omega)⟩
  have hykb := hyb yk (List.mem_of_getElem? hyk)
  refine xunf 1 [Ar I64 sk yk, Each (Ar I64) (ss.eraseIdx k) (yss.eraseIdx k)] (fun g hg => each_pick hg hsk hyk) (app2 ?_)
  refine xcall0 (CopyInts_spec sk yk hykb) rdb ?_
  rintro ⟨sc, _⟩ _ rfl
  refine app1 (ca1 ?_)
  have hkset : ss.set k sk = ss := set_self (by assumption)
  have hykset : yss.set k yk = yss := set_self (by assumption)
  refine xfold [Ar I64 sk yk, Each (Ar I64) (ss.eraseIdx k) (yss.eraseIdx k)] (Each (Ar I64) ss yss) (fun g hg => by have := each_put hq (by omega) hg; rwa [hkset, hykset] at this) ?_
  refine xidxn (E := SL) (xs := ss) (s := l) (h1 := hp) (h := fun si hsi => ?_)
  refine xgetE (E := SL) (xs := ss) hsi (h := ?_)
  obtain ⟨yi, hyi⟩ : ∃ yi, yss[i]? = some yi := ⟨_, List.getElem?_eq_getElem (by omega)⟩
  refine xunf 0 [Ar I64 si yi, Each (Ar I64) (ss.eraseIdx i) (yss.eraseIdx i)] (fun g hg => each_pick hg hsi hyi) (app2 ?_)
  refine xcl (SpoilInts_spec si yi) rdb ?_
  rintro ⟨⟩ _ ⟨zi, hzi, rfl⟩
  refine app1 (ca0 ?_)
  have hiset : ss.set i si = ss := set_self (by assumption)
  refine xfold [Ar I64 si zi, Each (Ar I64) (ss.eraseIdx i) (yss.eraseIdx i)] (Each (Ar I64) ss (yss.set i zi)) (fun g hg => by have := each_put (ys := yss) (y := zi) hp (by omega) hg; rwa [hiset] at this) ?_
  refine xidxn (E := SL) (xs := ss) (s := l) (h1 := hq) (h := fun sk' hsk' => ?_)
  obtain rfl : sk = sk' := by rw [hsk] at hsk'; cases hsk'; rfl
  refine xgetE (E := SL) (xs := ss) hsk (h := ?_)
  have hyk2 : (yss.set i zi)[k]? = some yk := by rw [List.getElem?_set_ne hik]; exact hyk
  have hl2 : (yss.set i zi).length = ss.length := by simpa using hyl
  have hb2 : ∀ xs ∈ yss.set i zi, xs.length ≤ 1000000 := fun xs hxs => by
    rcases List.mem_or_eq_of_mem_set hxs with h | h
    · exact hyb xs h
    · rw [h, hzi]; exact hyb yi (List.mem_of_getElem? hyi)
  have hykset2 : (yss.set i zi).set k yk = yss.set i zi := set_self (by assumption)
  generalize yss.set i zi = wss at hyk2 hl2 hb2 hykset2 ⊢
  refine xunf 0 [Ar I64 sk yk, Each (Ar I64) (ss.eraseIdx k) (wss.eraseIdx k)] (fun g hg => each_pick hg hsk hyk2) (app2 ?_)
  refine xcall0 (SameInts_spec sc sk yk hykb) rdb ?_
  rintro ⟨c, _⟩ _ ⟨hc, rfl⟩
  obtain rfl : c = true := hc
  refine app0 (ca1 (xiff rfl ?_))
  refine xfold [Ar I64 sk yk, Each (Ar I64) (ss.eraseIdx k) (wss.eraseIdx k)] (Each (Ar I64) ss wss) (fun g hg => by have := each_put hq (by omega) hg; rwa [hkset, hykset2] at this) ?_
  exact xuse [Ar SL l ss, Each (Ar I64) ss wss] (next wss hl2 hb2)

end Go.Cx
