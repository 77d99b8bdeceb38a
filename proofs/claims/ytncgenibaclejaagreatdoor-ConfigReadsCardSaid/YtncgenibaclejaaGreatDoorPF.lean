/-
  The laws of configurations, but for the document's own: walked through.
-/
import Derived.Test.YtncgenibaclejaaGreatDoorPE
import Derived.Test.YtncgenibaclejaaGreatDoorCG
namespace Go.Cx
open Go Go.Cf
set_option linter.unusedVariables false
set_option maxRecDepth 100000
variable {B : Base} {As F : List HP} {α : Type}

def headT : List UInt8 := [103, 97, 116, 101, 119, 97, 121, 32, 53, 32, 50, 32, 52, 32, 49, 48, 32, 49, 48, 48, 32, 50, 10]
def tagT : List UInt8 := [116, 97, 103, 32, 108, 101, 118, 101, 108, 32, 49, 55, 32, 104, 111, 108, 100, 105, 110, 103, 32, 49, 48, 55, 32, 50, 32, 119, 115, 32, 49, 32, 49, 48, 32, 45, 52, 48, 32, 51, 32, 48, 32, 53, 32, 45, 32, 50, 32, 108, 97, 116, 99, 104, 10]
def tagT2 : List UInt8 := [116, 97, 103, 32, 97, 32, 49, 55, 32, 99, 111, 105, 108, 32, 49, 48, 55, 32, 50, 32, 45, 32, 49, 32, 49, 32, 48, 32, 48, 32, 48, 32, 45, 32, 45, 32, 48, 32, 45, 10]
def levelT : List UInt8 := [103, 97, 116, 101, 119, 97, 121, 32, 53, 32, 50, 32, 52, 32, 49, 48, 32, 49, 48, 48, 32, 50, 10, 116, 97, 103, 32, 108, 101, 118, 101, 108, 32, 49, 55, 32, 104, 111, 108, 100, 105, 110, 103, 32, 49, 48, 55, 32, 50, 32, 119, 115, 32, 49, 32, 49, 48, 32, 45, 52, 48, 32, 51, 32, 48, 32, 53, 32, 45, 32, 50, 32, 108, 97, 116, 99, 104, 10]
def levelTag : Tag := ⟨BA [108, 101, 118, 101, 108], 17, 3, 107, 2, true, true, false, 1, 10, -40, 3, 0, true, false, true, 5, 0, 2⟩
def levelC : Cfg := ⟨5, 2, 4, 10, 100, 2, [levelTag]⟩
def texts1 : List (List UInt8) := [[],
  [103, 97, 116, 101, 119, 97, 121, 32, 53, 32, 50, 32, 52, 32, 49, 48, 32, 49, 48, 48, 32, 50],
  [103, 97, 116, 101, 119, 97, 121, 32, 53, 32, 50, 32, 52, 32, 49, 48, 32, 49, 48, 48, 32, 48, 10],
  [103, 97, 116, 101, 119, 97, 121, 32, 53, 32, 50, 32, 52, 32, 49, 48, 32, 49, 48, 48, 32, 50, 10],
  [103, 97, 116, 101, 119, 97, 121, 32, 53, 32, 50, 32, 52, 32, 49, 48, 32, 49, 48, 48, 32, 50, 32, 10],
  [32, 103, 97, 116, 101, 119, 97, 121, 32, 53, 32, 50, 32, 52, 32, 49, 48, 32, 49, 48, 48, 32, 50, 10],
  [103, 97, 116, 101, 119, 97, 121, 32, 53, 32, 50, 32, 52, 32, 49, 48, 32, 49, 48, 48, 10],
  [103, 97, 116, 101, 119, 97, 121, 32, 48, 53, 32, 50, 32, 52, 32, 49, 48, 32, 49, 48, 48, 32, 50, 10],
  [103, 97, 116, 101, 119, 97, 121, 32, 43, 53, 32, 50, 32, 52, 32, 49, 48, 32, 49, 48, 48, 32, 50, 10],
  [103, 97, 116, 101, 119, 97, 121, 32, 45, 53, 32, 50, 32, 52, 32, 49, 48, 32, 49, 48, 48, 32, 50, 10],
  [103, 97, 116, 101, 119, 97, 121, 32, 49, 50, 51, 52, 53, 54, 55, 56, 57, 48, 49, 50, 51, 52, 32, 50, 32, 52, 32, 49, 48, 32, 49, 48, 48, 32, 50, 10],
  [103, 97, 116, 101, 119, 97, 121, 32, 49, 50, 51, 52, 53, 54, 55, 56, 57, 48, 49, 50, 51, 32, 50, 32, 52, 32, 49, 48, 32, 49, 48, 48, 32, 50, 10],
  [103, 97, 116, 101, 119, 97, 121, 32, 49, 48, 52, 56, 53, 55, 54, 32, 53, 32, 49, 54, 32, 49, 48, 52, 56, 53, 55, 54, 32, 49, 48, 52, 56, 53, 55, 54, 32, 49, 54, 10],
  [103, 97, 116, 101, 119, 97, 121, 32, 49, 32, 54, 32, 49, 32, 49, 32, 49, 32, 49, 10],
  [103, 97, 116, 101, 119, 97, 121, 32, 49, 32, 48, 32, 49, 55, 32, 49, 32, 49, 32, 49, 10],
  [103, 97, 116, 101, 119, 97, 121, 32, 49, 32, 48, 32, 49, 32, 49, 32, 49, 32, 49, 55, 10],
  [103, 97, 116, 101, 119, 97, 121, 32, 49, 32, 48, 32, 49, 32, 49, 48, 52, 56, 53, 55, 55, 32, 49, 32, 49, 10],
  [103, 97, 116, 101, 119, 97, 121, 32, 49, 32, 48, 32, 49, 32, 49, 32, 48, 32, 49, 10],
  [71, 97, 116, 101, 119, 97, 121, 32, 49, 32, 48, 32, 49, 32, 49, 32, 49, 32, 49, 10],
  [103, 97, 116, 101, 119, 97, 121, 32, 49, 32, 48, 32, 49, 32, 49, 32, 49, 32, 49, 13, 10],
  [10]]
def nos1 : List Int := [33, 33, 32, 0, 33, 33, 33, 33, 33, 32, 33, 32, 0, 32, 32, 32, 32, 32, 33, 33, 33]
def texts2 : List (List UInt8) := [[116, 97, 103, 32, 108, 101, 118, 101, 108, 32, 49, 55, 32, 104, 111, 108, 100, 105, 110, 103, 32, 49, 48, 55, 32, 50, 32, 115, 119, 32, 49, 32, 49, 48, 32, 45, 52, 48, 32, 51, 32, 48, 32, 53, 32, 45, 32, 50, 32, 108, 97, 116, 99, 104, 10],
  [116, 97, 103, 32, 108, 101, 118, 101, 108, 32, 49, 55, 32, 104, 111, 108, 100, 105, 110, 103, 32, 49, 48, 55, 32, 50, 32, 32, 119, 115, 32, 49, 32, 49, 48, 32, 45, 52, 48, 32, 51, 32, 48, 32, 53, 32, 45, 32, 50, 32, 108, 97, 116, 99, 104, 10],
  [116, 97, 103, 32, 108, 101, 118, 101, 108, 32, 49, 55, 32, 104, 111, 108, 100, 105, 110, 103, 32, 49, 48, 55, 32, 50, 32, 119, 115, 32, 49, 32, 49, 48, 32, 45, 52, 48, 32, 51, 32, 45, 48, 32, 53, 32, 45, 32, 50, 32, 108, 97, 116, 99, 104, 10],
  [116, 97, 103, 32, 108, 101, 118, 101, 108, 32, 49, 55, 32, 104, 111, 108, 100, 105, 110, 103, 32, 49, 48, 55, 32, 50, 32, 119, 115, 32, 49, 32, 49, 48, 32, 45, 52, 48, 32, 51, 32, 48, 32, 53, 32, 45, 32, 50, 32, 108, 97, 116, 99, 104, 32, 10],
  [116, 97, 103, 32, 108, 101, 118, 101, 108, 32, 48, 32, 104, 111, 108, 100, 105, 110, 103, 32, 49, 48, 55, 32, 50, 32, 119, 115, 32, 49, 32, 49, 48, 32, 45, 52, 48, 32, 51, 32, 48, 32, 53, 32, 45, 32, 50, 32, 108, 97, 116, 99, 104, 10],
  [116, 97, 103, 32, 49, 32, 49, 55, 32, 104, 111, 108, 100, 105, 110, 103, 32, 49, 48, 55, 32, 50, 32, 119, 115, 32, 49, 32, 49, 48, 32, 45, 52, 48, 32, 51, 32, 48, 32, 53, 32, 45, 32, 50, 32, 45, 10],
  [116, 97, 103, 32, 108, 101, 118, 101, 108, 32, 49, 55, 32, 99, 111, 105, 108, 115, 32, 49, 48, 55, 32, 50, 32, 119, 115, 32, 49, 32, 49, 48, 32, 45, 52, 48, 32, 51, 32, 48, 32, 53, 32, 45, 32, 50, 32, 45, 10],
  [116, 97, 103, 32, 108, 101, 118, 101, 108, 32, 49, 55, 32, 99, 111, 105, 108, 32, 49, 48, 55, 32, 50, 32, 45, 32, 49, 32, 49, 32, 48, 32, 48, 32, 48, 32, 45, 32, 45, 32, 48, 32, 45, 10],
  [116, 97, 103, 32, 108, 101, 118, 101, 108, 32, 49, 55, 32, 99, 111, 105, 108, 32, 49, 48, 55, 32, 50, 32, 115, 32, 49, 32, 49, 32, 48, 32, 48, 32, 48, 32, 45, 32, 45, 32, 48, 32, 45, 10],
  [116, 97, 103, 32, 108, 101, 118, 101, 108, 32, 49, 55, 32, 114, 101, 103, 105, 115, 116, 101, 114, 32, 54, 53, 53, 51, 53, 32, 50, 32, 119, 32, 49, 32, 49, 32, 48, 32, 48, 32, 48, 32, 45, 32, 45, 32, 48, 32, 45, 10],
  [116, 97, 103, 32, 108, 101, 118, 101, 108, 32, 49, 55, 32, 114, 101, 103, 105, 115, 116, 101, 114, 32, 57, 32, 48, 32, 45, 32, 49, 32, 49, 32, 48, 32, 48, 32, 48, 32, 45, 32, 45, 32, 48, 32, 45, 10],
  [116, 97, 103, 32, 108, 101, 118, 101, 108, 32, 49, 55, 32, 114, 101, 103, 105, 115, 116, 101, 114, 32, 57, 32, 49, 32, 120, 32, 49, 32, 49, 32, 48, 32, 48, 32, 48, 32, 45, 32, 45, 32, 48, 32, 45, 10],
  [116, 97, 103, 32, 108, 101, 118, 101, 108, 32, 49, 55, 32, 114, 101, 103, 105, 115, 116, 101, 114, 32, 57, 32, 49, 32, 45, 32, 49, 32, 49, 32, 48, 32, 45, 49, 32, 48, 32, 45, 32, 45, 32, 48, 32, 45, 10],
  [116, 97, 103, 32, 108, 101, 118, 101, 108, 32, 49, 55, 32, 114, 101, 103, 105, 115, 116, 101, 114, 32, 57, 32, 49, 32, 45, 32, 49, 32, 49, 32, 48, 32, 48, 32, 48, 32, 53, 32, 53, 32, 48, 32, 45, 10],
  [116, 97, 103, 32, 108, 101, 118, 101, 108, 32, 49, 55, 32, 114, 101, 103, 105, 115, 116, 101, 114, 32, 57, 32, 49, 32, 45, 32, 49, 32, 49, 32, 48, 32, 48, 32, 48, 32, 53, 32, 57, 32, 48, 32, 76, 97, 116, 99, 104, 10]]
def nos2 : List Int := [33, 33, 33, 33, 24, 8, 33, 0, 25, 21, 3, 25, 26, 27, 33]

/-! The chapter's text. -/
theorem level_ok : cfgE levelC = 0 := by decide +kernel
theorem level_text : textL levelC = levelT := by decide +kernel
theorem level_parse : parseM levelT = (levelC, 0, 0) := level_text ▸ parse_text level_ok

/-- Parse, its answer known. -/
theorem xparse {K : Int → Int → Int → Int → Int → Int → Sl → Int → Int → WP} [r : Rdb B As GMax] {s : ByteArray} {l : List UInt8} (c : Cfg) (at_ e : Int) (hs : s = BA l) (hp : parseM l = (c, at_, e))
    (h : ∀ sl : Sl, Ent B (Ar TG sl c.tags :: As) (K c.timeout c.retries c.window c.resend c.span c.keep sl at_ e)) :
    Ent B As (XCall Pr F_config_Parse [.string s] (.tup [some 7, none, none]) [.int .i64, .int .i64, .int .i64, .int .i64, .int .i64, .int .i64, .slice, .int .i64, .int .i64] K) := by
  refine xcall0 (Parse_spec s) rdb ?_
  rintro _ _ ⟨sl, rfl, rfl⟩
  subst hs
  rw [BA_list, hp]
  exact app1 (ca9 (h sl))

abbrev GAll : HP := GMax.and GTab
theorem known_spec : Ct Pr F_law27_known [] .one [.bool] [] GAll (fun t Bs => t.1 = true ∧ Bs = []) := by
  refine spec1 c_law27_known fun B hr => ?_
  haveI : FroP B GMax := ⟨hr.1, fun _ _ h s => GMax.mono _ _ h s⟩
  haveI : FroP B GTab := ⟨hr.2, fun _ _ h s => GTab.mono _ _ h s⟩
  unfold law27_known
  refine xparse levelC 0 0 (l := levelT) rfl level_parse fun sl => ?_
  refine xnew fun b => ?_
  iterate 7 (refine xset (h := ?_))
  iterate 7 (refine xget (h := ?_))
  refine xcall0 (Print_spec levelC sl) rdb ?_
  rintro ⟨t, e, _⟩ _ ⟨he, ht, rfl⟩
  simp only at he ht; subst he
  rw [if_pos level_ok, level_text] at ht
  subst ht
  refine app0 (ca2 (xjoin (xift (by rw [level_ok]; rfl) (xjoin (xift (by exact beq_self_eq_true _) (xget (h := xjoin (xift rfl (xget (h := xjoin ?_))))))))))
  refine xlen (E := TG) (xs := levelC.tags) sl (fun hn _ => ?_)
  have hn : (1 : Nat) = sl.n := hn
  refine xift (by rw [← hn]; rfl) (xget (h := ?_))
  refine xidx (E := TG) (xs := [levelTag]) (s := sl) (h0 := by decide) (h1 := by simp) (h := fun x hx => ?_)
  obtain rfl : x = levelTag := by simpa using hx.symm
  iterate 6 (refine xgetEj (E := TG) (xs := [levelTag]) hx (h := ?_))
  exact xkeep (l := []) (xret ⟨rfl, rfl⟩)

instance fro_all {B : Base} [a : FroP B GMax] [b : FroP B GTab] : FroP B GAll := ⟨⟨a.now, b.now⟩, fun g f h s => ⟨a.mono g f h.1 s, b.mono g f h.2 s⟩⟩

theorem xknown {K : Bool → WP} [FroP B GMax] [FroP B GTab] (h : Ent B As (K true)) : Ent B As (XCall Pr F_law27_known [] .one [.bool] K) := by
  refine xcall0 known_spec rdb ?_
  rintro ⟨t, _⟩ _ ⟨ht, rfl⟩
  obtain rfl : t = true := ht
  exact app0 (ca1 h)

theorem same_spec (c : Cfg) (s1 s2 : Sl) (hb : c.tags.length ≤ 1099511627776) : Ct Pr F_law27_same [c.v s1, c.v s2] .one [.bool] [] ((RAr TG s1 c.tags).and (RAr TG s2 c.tags)) (fun t Bs => t.1 = true ∧ Bs = []) := by
  refine spec1 c_law27_same fun B hr => ?_
  haveI f1 : Fro B s1 TG c.tags := ⟨hr.1⟩
  haveI f2 : Fro B s2 TG c.tags := ⟨hr.2⟩
  unfold law27_same
  refine xnew fun b => xnew fun b1 => xget (h := xget (h := ?_))
  iterate 5 (refine xjoin (xift (beq_self_eq_true _) (xget (h := xget (h := ?_)))))
  refine xjoin (xift (beq_self_eq_true _) (xget (h := xget (h := ?_))))
  refine xcall0 (SameTags_spec s1 s2 c.tags hb) rdb ?_
  rintro ⟨t, _⟩ _ ⟨ht, rfl⟩
  obtain rfl : t = true := ht
  exact app0 (ca1 (xkeep (l := []) (xret ⟨rfl, rfl⟩)))

theorem parse_tagA {c : Cfg} (more : ByteArray) : ∃ (d : Cfg) (at_ e : Int), parseM (textL c ++ ([116, 97, 103, 32] ++ more.data.toList ++ [10])) = (d, at_, e) ∧ (cfgE c = 0 → (10 : UInt8) ∉ more.data.toList → more.data.toList.length ≤ 1000 → more.data.toList.count 32 ≠ 14 → at_ = ((c.tags.length + 2 : Nat) : Int) ∧ e = 33) := by
  refine ⟨(parseM (textL c ++ ([116, 97, 103, 32] ++ more.data.toList ++ [10]))).1, (parseM (textL c ++ ([116, 97, 103, 32] ++ more.data.toList ++ [10]))).2.1, (parseM (textL c ++ ([116, 97, 103, 32] ++ more.data.toList ++ [10]))).2.2, rfl, fun h1 h2 h3 h4 => ?_⟩
  rw [parse_tag h1 h2 h3 h4]
  exact ⟨rfl, rfl⟩

theorem facts1 : ((List.range 21).all fun i => match texts1[i]?, nos1[i]? with
    | some x, some n => decide ((parseM x).2.2 = n) && (((parseM x).2.1 != 0) == (n != 0)) && decide ((parseM x).2.1 ≤ 1)
    | _, _ => false) = true := by decide +kernel
theorem facts2 : ((List.range 15).all fun i => match texts2[i]?, nos2[i]? with
    | some x, some n => decide ((parseM (headT ++ x)).2.2 = n) && !(((parseM (headT ++ x)).2.1 != 2) && (n != 0)) && !(((parseM (headT ++ x)).2.1 != 0) && (n == 0))
    | _, _ => false) = true := by decide +kernel
theorem facts3 : (parseM (headT ++ tagT ++ tagT)).2 = (3, 7) ∧ (parseM (headT ++ tagT ++ tagT2)).2 = (3, 29) := by decide +kernel

theorem xparseA {K : Int → Int → Int → Int → Int → Int → Sl → Int → Int → WP} [r : Rdb B As GMax] {s : ByteArray} {l : List UInt8} (hs : s = BA l)
    (h : ∀ (c : Cfg) (sl : Sl), Ent B (Ar TG sl c.tags :: As) (K c.timeout c.retries c.window c.resend c.span c.keep sl (parseM l).2.1 (parseM l).2.2)) :
    Ent B As (XCall Pr F_config_Parse [.string s] (.tup [some 7, none, none]) [.int .i64, .int .i64, .int .i64, .int .i64, .int .i64, .int .i64, .slice, .int .i64, .int .i64] K) :=
  xparse (parseM l).1 _ _ hs rfl fun sl => h _ sl

theorem map_get {xs : List (List UInt8)} {k : Nat} {t : ByteArray} (h : (xs.map BA)[k]? = some t) : ∃ x, xs[k]? = some x ∧ t = BA x := by
  rw [List.getElem?_map] at h
  obtain ⟨x, hx, rfl⟩ := Option.map_eq_some_iff.1 h
  exact ⟨x, hx, rfl⟩

end Go.Cx
