/-
  Parse.
-/
import Derived.Test.YtncgenibaclejaaGreatDoorPC
namespace Go.Cx
open Go Go.Cf
set_option linter.unusedVariables false
set_option maxRecDepth 100000
variable {B : Base} {As F : List HP} {α : Type}

theorem Parse_spec (s : ByteArray) : Ct Pr F_config_Parse [.string s] (.tup [some 7, none, none]) [.int .i64, .int .i64, .int .i64, .int .i64, .int .i64, .int .i64, .slice, .int .i64, .int .i64] [] GMax
    (fun t Bs => ∃ sl : Sl, t = ((parseM s.data.toList).1.timeout, (parseM s.data.toList).1.retries, (parseM s.data.toList).1.window, (parseM s.data.toList).1.resend, (parseM s.data.toList).1.span, (parseM s.data.toList).1.keep, sl, (parseM s.data.toList).2.1, (parseM s.data.toList).2.2, ()) ∧ Bs = [Ar TG sl (parseM s.data.toList).1.tags]) := by
  refine spec9 c_config_Parse fun B hr => ?_
  haveI : FroP B GMax := ⟨hr, fun _ _ h s => GMax.mono _ _ h s⟩
  unfold config_Parse
  have hsz : s.data.toList.length = s.size := by rw [Array.length_toList]; rfl
  generalize hS : s.data.toList = S at hsz
  have hsB : s = BA S := by rw [← hS, BA_data]
  refine xnew fun b => ?_
  refine xif_dec (fun h => ?_) (fun h => ?_)
  · have hp : parseM S = (cfg0, 0, 2) := by unfold parseM; rw [if_pos (by omega)]
    rw [hp]
    iterate 7 (refine xset (h := ?_))
    iterate 6 (refine xget (h := ?_))
    refine xget (s := .slice) (x := ⟨none, 0, 0⟩) (h := ?_)
    refine xnone TG ?_
    exact xuse [Ar TG ⟨none, 0, 0⟩ []] (xret ⟨_, rfl, rfl⟩)
  have hp : parseM S = match goT (splitL 10 S) 1 cfg0 with
    | (none, no) => (cfg0, (no : Int), 33)
    | (some c, _) => endM c := by unfold parseM; rw [if_neg (by omega)]; rfl
  refine xnew fun b1 => ?_
  refine xnone TG ?_
  refine xuse [Blk b1 (cfg0.cs ⟨none, 0, 0⟩), Ar TG ⟨none, 0, 0⟩ [], Blk b [.int .i64 0, .int .i64 0, .int .i64 0, .int .i64 0, .int .i64 0, .int .i64 0, .slice none 0 0]] ?_
  refine xloop2 (fun m (s1 : ByteArray) (x : Int) As' => ∃ (l : List UInt8) (no : Nat) (c : Cfg) (sl : Sl), s1 = BA l ∧ x = (no : Int) ∧ m = l.length ∧ 1 ≤ no ∧ c.tags.length ≤ no ∧ no + l.length ≤ S.length + 1 ∧ goT (splitL 10 S) 1 cfg0 = goT (splitL 10 l) no c ∧ As' = [Blk b1 (c.cs sl), Ar TG sl c.tags, Blk b [.int .i64 0, .int .i64 0, .int .i64 0, .int .i64 0, .int .i64 0, .int .i64 0, .slice none 0 0]]) S.length ⟨S, 1, cfg0, ⟨none, 0, 0⟩, hsB, rfl, rfl, by omega, by simp, by omega, rfl, rfl⟩ ?_
  rintro m s1 x As' K ⟨l, no, c, sl, rfl, rfl, rfl, hno, htl, hle, hgo, rfl⟩ hK
  rw [hgo] at hp
  have hc1 : (!((BA l).toList == ByteArray.empty.toList) || ((no : Int) == 1)) = !(l == [] && !(no == 1)) := by
    rw [BA_toList, empty_list]
    cases h1 : l == [] <;> cases h2 : no == 1 <;> simp at * <;> omega
  rw [hc1]
  refine xif (fun h1 => ?_) (fun h1 => ?_)
  · have h1 : no = 1 ∨ l ≠ [] := by
      by_cases e : l = []
      · refine .inl ?_
        rw [e] at h1
        simpa using h1
      · exact .inr e
    have hls : (BA l).size < 4294967281 := by rw [BA_size]; omega
    refine xcall0 (Cut_spec (BA l) _ hls) rdb ?_
    rintro ⟨t, t1, en, _⟩ _ ⟨ht, ht1, hen, rfl⟩
    simp only [BA_list] at ht ht1 hen
    obtain ⟨a, r, en', hcut, hcase⟩ : ∃ a r en', Lib.cut l [10] = (a, r, en') ∧ a.length ≤ l.length ∧ ((en' = false ∧ goT (splitL 10 l) no c = (none, no)) ∨ (en' = true ∧ r.length < l.length ∧ goT (splitL 10 l) no c = match stepM no a c with | some c' => goT (splitL 10 r) (no + 1) c' | none => (none, no))) := by
      rcases index_cases l 10 with hm | ⟨i, hi⟩
      · have hn := index_miss hm
        refine ⟨l, [], false, cut_miss hn, Nat.le_refl _, .inl ⟨rfl, ?_⟩⟩
        rw [splitL_none hn]
        show (if no = 1 ∨ l ≠ [] then (none, no) else (some c, 0)) = _
        rw [if_pos h1]
      · obtain ⟨q1, q2⟩ := index_split hi
        have hlen := congrArg List.length q2
        simp only [List.length_append, List.length_cons] at hlen
        refine ⟨l.take i, l.drop (i + 1), true, ?_, by omega, .inr ⟨rfl, by omega, ?_⟩⟩
        · conv => lhs; rw [q2]
          exact cut_hit q1
        · conv => lhs; rw [q2, splitL_hit q1]
          cases e : splitL 10 (l.drop (i + 1)) with
          | nil => exact absurd e (splitL_ne _ _)
          | cons x xs => rfl
    rw [hcut] at ht ht1 hen
    simp only at ht ht1 hen
    obtain ⟨hal, hcase⟩ := hcase
    obtain rfl : t = BA a := ht
    obtain rfl : t1 = BA r := ht1
    subst hen
    have has : (BA a).size ≤ 1048576 := by rw [BA_size]; omega
    refine app0 (ca3 ?_)
    refine xjoin1 (fun (ok : Bool) As' => (ok = true ∧ ∃ (c' : Cfg) (sl' : Sl), As' = [Blk b1 (c'.cs sl'), Ar TG sl' c'.tags, Blk b [.int .i64 0, .int .i64 0, .int .i64 0, .int .i64 0, .int .i64 0, .int .i64 0, .slice none 0 0]] ∧ stepM no a c = some c' ∧ c'.tags.length ≤ no + 1) ∨ (ok = false ∧ stepM no a c = none ∧ ∃ cs, As' = [Blk b1 cs, Blk b [.int .i64 0, .int .i64 0, .int .i64 0, .int .i64 0, .int .i64 0, .int .i64 0, .slice none 0 0]])) (fun K2 hK2 => ?_) ?_
    · refine xif (fun h2 => ?_) (fun h2 => ?_)
      · have h2 : no = 1 := by simp at h2; omega
        refine xcall0 (head_spec (BA a) has) rdb ?_
        rintro ⟨v0, v1, v2, v3, v4, v5, sv, ok, _⟩ _ ⟨hok, hval, rfl⟩
        simp only [BA_list] at hok hval
        refine app0 (ca8 ?_)
        iterate 7 (refine xset (h := ?_))
        have hst : stepM no a c = headM (splitL 32 a) := by unfold stepM; rw [if_pos h2]
        cases e : headM (splitL 32 a) with
        | some x =>
          have hv := hval x e
          simp only [Prod.mk.injEq] at hv
          obtain ⟨rfl, rfl, rfl, rfl, rfl, rfl, rfl, rfl, _⟩ := hv
          have hx := (headM_some.1 e).2.2.2.2.2.2.2.2
          refine xnone TG ?_
          refine xuse [Blk b1 (x.cs ⟨none, 0, 0⟩), Ar TG ⟨none, 0, 0⟩ [], Blk b [.int .i64 0, .int .i64 0, .int .i64 0, .int .i64 0, .int .i64 0, .int .i64 0, .slice none 0 0]] (hK2 _ _ (.inl ⟨rfl, x, ⟨none, 0, 0⟩, by rw [hx], by rw [hst, e], by rw [hx]; simp⟩))
        | none =>
          rw [e] at hok
          obtain rfl : ok = false := hok
          exact xuse [Blk b1 [.int .i64 v0, .int .i64 v1, .int .i64 v2, .int .i64 v3, .int .i64 v4, .int .i64 v5, Sl.v sv], Blk b [.int .i64 0, .int .i64 0, .int .i64 0, .int .i64 0, .int .i64 0, .int .i64 0, .slice none 0 0]] (hK2 _ _ (.inr ⟨rfl, by rw [hst, e], _, rfl⟩))
      · have h2 : ¬ no = 1 := by simp at h2; omega
        have hst : stepM no a c = (tagM (splitL 32 a)).map fun t => { c with tags := c.tags ++ [t] } := by unfold stepM; rw [if_neg h2]
        refine xnew fun b2 => ?_
        refine xcall0 (tag_spec (BA a) has) rdb ?_
        rintro ⟨t2, r6, r7, r8, r9, f1, f2, f3, r10, r11, r12, r13, r14, f4, f5, f6, r15, r16, r17, ok, _⟩ _ ⟨hok, hval, rfl⟩
        simp only [BA_list] at hok hval
        refine app0 (ca20 ?_)
        iterate 19 (refine xset (h := ?_))
        iterate 20 (refine xget (h := ?_))
        refine xnew fun b3 => ?_
        refine xapp1 (E := TG) (⟨t2, r6, r7, r8, r9, f1, f2, f3, r10, r11, r12, r13, r14, f4, f5, f6, r15, r16, r17⟩ : Tag) (hb := by omega) (h := fun s4 => xset (h := ?_))
        cases e : tagM (splitL 32 a) with
        | some tt =>
          have hv := hval tt e
          simp only [Prod.mk.injEq] at hv
          obtain ⟨rfl, rfl, rfl, rfl, rfl, rfl, rfl, rfl, rfl, rfl, rfl, rfl, rfl, rfl, rfl, rfl, rfl, rfl, rfl, rfl, _⟩ := hv
          refine xuse [Blk b1 (({ c with tags := c.tags ++ [tt] } : Cfg).cs s4), Ar TG s4 (c.tags ++ [tt]), Blk b [.int .i64 0, .int .i64 0, .int .i64 0, .int .i64 0, .int .i64 0, .int .i64 0, .slice none 0 0]] (hK2 _ _ (.inl ⟨rfl, { c with tags := c.tags ++ [tt] }, s4, rfl, by rw [hst, e]; rfl, by simp; omega⟩))
        | none =>
          rw [e] at hok
          obtain rfl : ok = false := hok
          exact xuse [Blk b1 [.int .i64 c.timeout, .int .i64 c.retries, .int .i64 c.window, .int .i64 c.resend, .int .i64 c.span, .int .i64 c.keep, s4.v], Blk b [.int .i64 0, .int .i64 0, .int .i64 0, .int .i64 0, .int .i64 0, .int .i64 0, .slice none 0 0]] (hK2 _ _ (.inr ⟨rfl, by rw [hst, e]; rfl, _, rfl⟩))
    have err : ∀ {As F : List HP} [Split [Blk b [.int .i64 0, .int .i64 0, .int .i64 0, .int .i64 0, .int .i64 0, .int .i64 0, .slice none 0 0]] As F], parseM S = (cfg0, (no : Int), 33) → Ent B As
        (XSet ⟨b, 0, none⟩ (.int .i64 0) <| XSet ⟨b, 1, none⟩ (.int .i64 0) <| XSet ⟨b, 2, none⟩ (.int .i64 0) <| XSet ⟨b, 3, none⟩ (.int .i64 0) <| XSet ⟨b, 4, none⟩ (.int .i64 0) <| XSet ⟨b, 5, none⟩ (.int .i64 0) <| XSet ⟨b, 6, none⟩ (.slice none 0 0) <| XGet (.int .i64) ⟨b, 0, none⟩ fun (v : Int) => XGet (.int .i64) ⟨b, 1, none⟩ fun (v1 : Int) => XGet (.int .i64) ⟨b, 2, none⟩ fun (v2 : Int) => XGet (.int .i64) ⟨b, 3, none⟩ fun (v3 : Int) => XGet (.int .i64) ⟨b, 4, none⟩ fun (v4 : Int) => XGet (.int .i64) ⟨b, 5, none⟩ fun (v5 : Int) => XGet .slice ⟨b, 6, none⟩ fun v6 => Ret B (ss := [.int .i64, .int .i64, .int .i64, .int .i64, .int .i64, .int .i64, .slice, .int .i64, .int .i64]) (fun t Bs => ∃ sl : Sl, t = ((parseM S).1.timeout, (parseM S).1.retries, (parseM S).1.window, (parseM S).1.resend, (parseM S).1.span, (parseM S).1.keep, sl, (parseM S).2.1, (parseM S).2.2, ()) ∧ Bs = [Ar TG sl (parseM S).1.tags]) (v, v1, v2, v3, v4, v5, v6, (no : Int), 33, ())) := by
      intro As F _ hp
      rw [hp]
      refine xuse [Blk b [.int .i64 0, .int .i64 0, .int .i64 0, .int .i64 0, .int .i64 0, .int .i64 0, .slice none 0 0]] ?_
      iterate 7 (refine xset (h := ?_))
      iterate 6 (refine xget (h := ?_))
      refine xget (s := .slice) (x := ⟨none, 0, 0⟩) (h := ?_)
      refine xnone TG ?_
      exact xuse [Ar TG ⟨none, 0, 0⟩ []] (xret ⟨_, rfl, rfl⟩)
    rintro ok As2 (⟨rfl, c', sl', rfl, hst, hlen⟩ | ⟨rfl, hst, cs, rfl⟩)
    · rcases hcase with ⟨rfl, hg⟩ | ⟨rfl, hrl, hg⟩
      · exact xift rfl (err (by rw [hp, hg]))
      · refine xiff rfl ?_
        rw [hst] at hg
        simp only at hg
        rw [wrap_succ no (by omega)]
        exact hK r.length _ _ _ hrl ⟨r, no + 1, c', sl', rfl, rfl, rfl, by omega, hlen, by omega, hgo.trans hg, rfl⟩
    · have hp : parseM S = (cfg0, (no : Int), 33) := by
        rcases hcase with ⟨rfl, hg⟩ | ⟨rfl, _, hg⟩
        · rw [hp, hg]
        · rw [hst] at hg
          rw [hp, hg]
      exact xift rfl (err hp)
  · have h1 : l = [] ∧ ¬ no = 1 := by simpa using h1
    obtain ⟨rfl, hn1⟩ := h1
    have hg : goT (splitL 10 []) no c = (some c, 0) := by
      show (if no = 1 ∨ ([] : List UInt8) ≠ [] then (none, no) else (some c, 0)) = _
      rw [if_neg (by simp [hn1])]
    rw [hg] at hp
    simp only at hp
    iterate 7 (refine xget (h := ?_))
    refine xcall0 (own_spec c sl) rdb ?_
    rintro ⟨o, _⟩ _ ⟨ho, rfl⟩
    obtain rfl : o = ownB c := ho
    refine app0 (ca1 (xif (fun h2 => ?_) (fun h2 => ?_)))
    · have h2 : ownB c = false := by simpa using h2
      have hp : parseM S = (cfg0, 1, 32) := by rw [hp]; unfold endM; rw [if_pos h2]
      rw [hp]
      iterate 7 (refine xset (h := ?_))
      iterate 6 (refine xget (h := ?_))
      refine xget (s := .slice) (x := ⟨none, 0, 0⟩) (h := ?_)
      refine xnone TG ?_
      exact xuse [Ar TG ⟨none, 0, 0⟩ []] (xret ⟨_, rfl, rfl⟩)
    have h2 : ¬ ownB c = false := by simpa using h2
    refine xget (h := ?_)
    refine xcall0 (CheckAll_spec sl c.tags) rdb ?_
    rintro ⟨e, at_, _⟩ _ ⟨he, hat, rfl⟩
    simp only at he hat; subst he hat
    refine app0 (ca2 (xif (fun h3 => ?_) (fun h3 => ?_)))
    · have h3 : (allE c.tags).1 ≠ 0 := by simpa using h3
      obtain ⟨k0, k1⟩ := allE_bound c.tags
      have hp : parseM S = (cfg0, (allE c.tags).2 + 2, (allE c.tags).1) := by rw [hp]; unfold endM; rw [if_neg h2, if_pos h3]
      rw [hp]
      rw [wrap_id ((allE c.tags).2 + 2) (by omega) (by omega)]
      iterate 7 (refine xset (h := ?_))
      iterate 6 (refine xget (h := ?_))
      refine xget (s := .slice) (x := ⟨none, 0, 0⟩) (h := ?_)
      refine xnone TG ?_
      exact xuse [Ar TG ⟨none, 0, 0⟩ []] (xret ⟨_, rfl, rfl⟩)
    · have h3 : ¬ (allE c.tags).1 ≠ 0 := by simpa using h3
      have hp : parseM S = (c, 0, 0) := by rw [hp]; unfold endM; rw [if_neg h2, if_neg h3]
      rw [hp]
      iterate 7 (refine xget (h := ?_))
      iterate 7 (refine xset (h := ?_))
      iterate 7 (refine xget (h := ?_))
      exact xuse [Ar TG sl c.tags] (xret ⟨_, rfl, rfl⟩)

end Go.Cx
