/-
  Any text is read as the document reads it.
-/
import Derived.Test.YtncgenibaclejaaGreatDoorPK
import Derived.Test.YtncgenibaclejaaGreatDoorPG
namespace Go.Cx
open Go Go.Cf
set_option linter.unusedVariables false
set_option maxRecDepth 100000
variable {B : Base} {As F : List HP} {α : Type}

theorem parse_tags {s : List UInt8} (hl : s.length ≤ 1048576) : (parseM s).1.tags.length ≤ 64 := by
  by_cases h : (parseM s).2.2 = 0
  · have e : parseM s = ((parseM s).1, (parseM s).2.1, 0) := by rw [← h]
    exact allE_len (cfg_ok (parse_only e).2.1).2
  · rw [(parse_bad hl h).1]; simp

theorem ConfigReads_spec (s : ByteArray) : Ct Pr F_law27_ConfigReads [.string s] .one [.bool] [] GAll (fun t Bs => t.1 = true ∧ Bs = []) := by
  refine spec1 c_law27_ConfigReads fun B hr => ?_
  haveI : FroP B GMax := ⟨hr.1, fun _ _ h s => GMax.mono _ _ h s⟩
  haveI : FroP B GTab := ⟨hr.2, fun _ _ h s => GTab.mono _ _ h s⟩
  unfold law27_ConfigReads
  refine xif_dec (fun h => xknown (xret ⟨rfl, rfl⟩)) (fun h => ?_)
  have hsz : s.data.toList.length = s.size := by rw [Array.length_toList]; rfl
  have htl := parse_tags (s := s.data.toList) (by omega)
  refine xcall0 (Parse_spec s) rdb ?_
  rintro _ _ ⟨sl, rfl, rfl⟩
  generalize hq : parseM s.data.toList = q at htl
  refine app1 (ca9 ?_)
  refine xnew fun b => ?_
  iterate 7 (refine xset (h := ?_))
  have hs : s = BA s.data.toList := (BA_data s).symm
  have sp : Ct Pr F_ref27_Parse [.string s] (.tup [some 7, none, none]) [.int .i64, .int .i64, .int .i64, .int .i64, .int .i64, .int .i64, .slice, .int .i64, .int .i64] [] emp
      (fun t Bs => ∃ sl : Sl, t = (q.1.timeout, q.1.retries, q.1.window, q.1.resend, q.1.span, q.1.keep, sl, q.2.1, q.2.2, ()) ∧ Bs = [Ar TG sl q.1.tags]) := by
    have := ParseRef_spec s.data.toList
    rw [← hs, hq] at this
    exact this
  refine xcall0 sp rdb ?_
  rintro _ _ ⟨sl2, rfl, rfl⟩
  refine app1 (ca9 ?_)
  refine xnew fun b1 => ?_
  iterate 7 (refine xset (h := ?_))
  refine xjoin (xift (by rw [beq_self_eq_true, beq_self_eq_true]; rfl) ?_)
  iterate 14 (refine xget (h := ?_))
  refine xcall0 (same_spec q.1 sl sl2 (by omega)) rdb ?_
  rintro ⟨t, _⟩ _ ⟨ht, rfl⟩
  obtain rfl : t = true := ht
  exact app0 (ca1 (xkeep (l := []) (xret ⟨rfl, rfl⟩)))

end Go.Cx
