/-
  The laws of configurations, but for the document's own: walked through.
-/
import Derived.Test.YtncgenibaclejaaDoorPE
import Derived.Test.YtncgenibaclejaaDoorCG
namespace Go.Cx
open Go Go.Cf
set_option linter.unusedVariables false
set_option maxRecDepth 100000
variable {B : Base} {As F : List HP} {α : Type}

def headT : List UInt8 := [103, 97, 116, 101, 119, 97, 121, 32, 53, 32, 50, 32, 52, 32, 49, 48, 32, 49, 48, 48, 32, 50, 10]
def tagT : List UInt8 := [116, 97, 103, 32, 108, 101, 118, 101, 108, 32, 49, 55, 32, 104, 111, 108, 100, 105, 110, 103, 32, 49, 48, 55, 32, 50, 32, 119, 115, 32, 49, 32, 49, 48, 32, 45, 52, 48, 32, 51, 32, 48, 32, 53, 32, 45, 32, 50, 32, 108, 97, 116, 99, 104, 10]
def tagT2 : List UInt8 := [116, 97, 103, 32, 97, 32, 49, 55, 32, 99, 111, 105, 108, 32, 49, 48, 55, 32, 50, 32, 45, 32, 49, 32, 49, 32, 48, 32, 48, 32, 48, 32, 45, 32, 45, 32, 48, 32, 45, 10]
def levelT : List UInt8 := [103, 97, 116, 101, 119, 97, 121, 32, 53, 32, 50, 32, 52, 32, 49, 48, 32, 49, 48, 48, 32, 50, 10, 116, 97, 103, 32, 108, 101, 118, 101, 108, 32, 49, 55, 32, 104, 111, 108, 100, 105, 110, 103, 32, 49, 48, 55, 32, 50, 32, 119, 115, 32, 49, 32, 49, 48, 32, 45, 52, 48, 32, 51, 32, 48, 32, 53, 32, 45, 32, 50, 32, 108, 97, 116, 99, 104, 10]
def levelTag : Tag := ⟨BA [108, 101, 118, 101, 108], 17, 3, 107, 2, true, true, false, 1, 10, -40, 3, 0, true, false, true, 5, 0, 2⟩
def levelC : Cfg := ⟨5, 2, 4, 10, 100, 2, [levelTag]⟩
def texts1 : List (List UInt8) := [[],
  [103, 97, 116, 101, 119, 97, 121, 32, 53, 32, 50, 32, 52, 32, 49, 48, 32, 49, 48, 48, 32, 50],
  [103, 97, 116, 101, 119, 97, 121, 32, 53, 32, 50, 32, 52, 32, 49, 48, 32, 49, 48, 48, 32, 48, 10],
  [103, 97, 116, 101, 119, 97, 121, 32, 53, 32, 50, 32, 52, 32, 49, 48, 32, 49, 48, 48, 32, 50, 10],
  [103, 97, 116, 101, 119, 97, 121, 32, 53, 32, 50, 32, 52, 32, 49, 48, 32, 49, 48, 48, 32, 50, 32, 10],
  [32, 103, 97, 116, 101, 119, 97, 121, 32, 53, 32, 50, 32, 52, 32, 49, 48, 32, 49, 48, 48, 32, 50, 10],
  [103, 97, 116, 101, 119, 97, 121, 32, 53, 32, 50, 32, 52, 32, 49, 48, 32, 49, 48, 48, 10],
  [103, 97, 116, 101, 119, 97, 121, 32, 48, 53, 32, 50, 32, 52, 32, 49, 48, 32, 49, 48, 48, 32, 50, 10],
  [103, 97, 116, 101, 119, 97, 121, 32, 43, 53, 32, 50, 32, 52, 32, 49, 48, 32, 49, 48, 48, 32, 50, 10],
  [103, 97, 116, 101, 119, 97, 121, 32, 45, 53, 32, 50, 32, 52, 32, 49, 48, 32, 49, 48, 48, 32, 50, 10],
  [103, 97, 116, 101, 119, 97, 121, 32, 49, 50, 51, 52, 53, 54, 55, 56, 57, 48, 49, 50, 51, 52, 32, 50, 32, 52, 32, 49, 48, 32, 49, 48, 48, 32, 50, 10],
  [103, 97, 116, 101, 119, 97, 121, 32, 49, 50, 51, 52, 53, 54, 55, 56, 57, 48, 49, 50, 51, 32, 50, 32, 52, 32, 49, 48, 32, 49, 48, 48, 32, 50, 10],
  [103, 97, 116, 101, 119, 97, 121, 32, 49, 48, 52, 56, 53, 55, 54, 32, 53, 32, 49, 54, 32, 49, 48, 52, 56, 53, 55, 54, 32, 49, 48, 52, 56, 53, 55, 54, 32, 49, 54, 10],
  [103, 97, 116, 101, 119, 97, 121, 32, 49, 32, 54, 32, 49, 32, 49, 32, 49, 32, 49, 10],
  [103, 97, 116, 101, 119, 97, 121, 32, 49, 32, 48, 32, 49, 55, 32, 49, 32, 49, 32, 49, 10],
  [103, 97, 116, 101, 119, 97, 121, 32, 49, 32, 48, 32, 49, 32, 49, 32, 49, 32, 49, 55, 10],
  [103, 97, 116, 101, 119, 97, 121, 32, 49, 32, 48, 32, 49, 32, 49, 48, 52, 56, 53, 55, 55, 32, 49, 32, 49, 10],
  [103, 97, 116, 101, 119, 97, 121, 32, 49, 32, 48, 32, 49, 32, 49, 32, 48, 32, 49, 10],
  [71, 97, 116, 101, 119, 97, 121, 32, 49, 32, 48, 32, 49, 32, 49, 32, 49, 32, 49, 10],
  [103, 97, 116, 101, 119, 97, 121, 32, 49, 32, 48, 32, 49, 32, 49, 32, 49, 32, 49, 13, 10],
  [10]]
def nos1 : List Int := [33, 33, 32, 0, 33, 33, 33, 33, 33, 32, 33, 32, 0, 32, 32, 32, 32, 32, 33, 33, 33]
def texts2 : List (List UInt8) := [[116, 97, 103, 32, 108, 101, 118, 101, 108, 32, 49, 55, 32, 104, 111, 108, 100, 105, 110, 103, 32, 49, 48, 55, 32, 50, 32, 115, 119, 32, 49, 32, 49, 48, 32, 45, 52, 48, 32, 51, 32, 48, 32, 53, 32, 45, 32, 50, 32, 108, 97, 116, 99, 104, 10],
  [116, 97, 103, 32, 108, 101, 118, 101, 108, 32, 49, 55, 32, 104, 111, 108, 100, 105, 110, 103, 32, 49, 48, 55, 32, 50, 32, 32, 119, 115, 32, 49, 32, 49, 48, 32, 45, 52, 48, 32, 51, 32, 48, 32, 53, 32, 45, 32, 50, 32, 108, 97, 116, 99, 104, 10],
  [116, 97, 103, 32, 108, 101, 118, 101, 108, 32, 49, 55, 32, 104, 111, 108, 100, 105, 110, 103, 32, 49, 48, 55, 32, 50, 32, 119, 115, 32, 49, 32, 49, 48, 32, 45, 52, 48, 32, 51, 32, 45, 48, 32, 53, 32, 45, 32, 50, 32, 108, 97, 116, 99, 104, 10],
  [116, 97, 103, 32, 108, 101, 118, 101, 108, 32, 49, 55, 32, 104, 111, 108, 100, 105, 110, 103, 32, 49, 48, 55, 32, 50, 32, 119, 115, 32, 49, 32, 49, 48, 32, 45, 52, 48, 32, 51, 32, 48, 32, 53, 32, 45, 32, 50, 32, 108, 97, 116, 99, 104, 32, 10],
  [116, 97, 103, 32, 108, 101, 118, 101, 108, 32, 48, 32, 104, 111, 108, 100, 105, 110, 103, 32, 49, 48, 55, 32, 50, 32, 119, 115, 32, 49, 32, 49, 48, 32, 45, 52, 48, 32, 51, 32, 48, 32, 53, 32, 45, 32, 50, 32, 108, 97, 116, 99, 104, 10],
  [116, 97, 103, 32, 49, 32, 49, 55, 32, 104, 111, 108, 100, 105, 110, 103, 32, 49, 48, 55, 32, 50, 32, 119, 115, 32, 49, 32, 49, 48, 32, 45, 52, 48, 32, 51, 32, 48, 32, 53, 32, 45, 32, 50, 32, 45, 10],
  [116, 97, 103, 32, 108, 101, 118, 101, 108, 32, 49, 55, 32, 99, 111, 105, 108, 115, 32, 49, 48, 55, 32, 50, 32, 119, 115, 32, 49, 32, 49, 48, 32, 45, 52, 48, 32, 51, 32, 48, 32, 53, 32, 45, 32, 50, 32, 45, 10],
  [116, 97, 103, 32, 108, 101, 118, 101, 108, 32, 49, 55, 32, 99, 111, 105, 108, 32, 49, 48, 55, 32, 50, 32, 45, 32, 49, 32, 49, 32, 48, 32, 48, 32, 48, 32, 45, 32, 45, 32, 48, 32, 45, 10],
  [116, 97, 103, 32, 108, 101, 118, 101, 108, 32, 49, 55, 32, 99, 111, 105, 108, 32, 49, 48, 55, 32, 50, 32, 115, 32, 49, 32, 49, 32, 48, 32, 48, 32, 48, 32, 45, 32, 45, 32, 48, 32, 45, 10],
  [116, 97, 103, 32, 108, 101, 118, 101, 108, 32, 49, 55, 32, 114, 101, 103, 105, 115, 116, 101, 114, 32, 54, 53, 53, 51, 53, 32, 50, 32, 119, 32, 49, 32, 49, 32, 48, 32, 48, 32, 48, 32, 45, 32, 45, 32, 48, 32, 45, 10],
  [116, 97, 103, 32, 108, 101, 118, 101, 108, 32, 49, 55, 32, 114, 101, 103, 105, 115, 116, 101, 114, 32, 57, 32, 48, 32, 45, 32, 49, 32, 49, 32, 48, 32, 48, 32, 48, 32, 45, 32, 45, 32, 48, 32, 45, 10],
  [116, 97, 103, 32, 108, 101, 118, 101, 108, 32, 49, 55, 32, 114, 101, 103, 105, 115, 116, 101, 114, 32, 57, 32, 49, 32, 120, 32, 49, 32, 49, 32, 48, 32, 48, 32, 48, 32, 45, 32, 45, 32, 48, 32, 45, 10],
  [116, 97, 103, 32, 108, 101, 118, 101, 108, 32, 49, 55, 32, 114, 101, 103, 105, 115, 116, 101, 114, 32, 57, 32, 49, 32, 45, 32, 49, 32, 49, 32, 48, 32, 45, 49, 32, 48, 32, 45, 32, 45, 32, 48, 32, 45, 10],
  [116, 97, 103, 32, 108, 101, 118, 101, 108, 32, 49, 55, 32, 114, 101, 103, 105, 115, 116, 101, 114, 32, 57, 32, 49, 32, 45, 32, 49, 32, 49, 32, 48, 32, 48, 32, 48, 32, 53, 32, 53, 32, 48, 32, 45, 10],
  [116, 97, 103, 32, 108, 101, 118, 101, 108, 32, 49, 55, 32, 114, 101, 103, 105, 115, 116, 101, 114, 32, 57, 32, 49, 32, 45, 32, 49, 32, 49, 32, 48, 32, 48, 32, 48, 32, 53, 32, 57, 32, 48, 32, 76, 97, 116, 99, 104, 10]]
def nos2 : List Int := [33, 33, 33, 33, 24, 8, 33, 0, 25, 21, 3, 25, 26, 27, 33]

/-! The chapter's text. -/
theorem level_ok : cfgE levelC = 0 := by decide +kernel
theorem level_text : textL levelC = levelT := by decide +kernel
theorem level_parse : parseM levelT = (levelC, 0, 0) := level_text ▸ parse_text level_ok

/-- Parse, its answer known. -/
theorem xparse {K : Int → Int → Int → Int → Int → Int → Sl → Int → Int → WP} [r : Rdb B As GMax] {s : ByteArray} {l : List UInt8} (c : Cfg) (at_ e : Int) (hs : s = BA l) (hp : parseM l = (c, at_, e))
    (h : ∀ sl : Sl, Ent B (Ar TG sl c.tags :: As) (K c.timeout c.retries c.window c.resend c.span c.keep sl at_ e)) :
    Ent B As (XCall Pr F_config_Parse [.string s] (.tup [some 7, none, none]) [.int .i64, .int .i64, .int .i64, .int .i64, .int .i64, .int .i64, .slice, .int .i64, .int .i64] K) := by
  refine xcall0 (Parse_spec s) rdb ?_
  rintro _ _ ⟨sl, rfl, rfl⟩
  subst hs
  rw [BA_list, hp]
  exact app1 (ca9 (h sl))

abbrev GAll : HP := GMax.and GTab
theorem known_spec : Ct Pr F_law27_known [] .one [.bool] [] GAll (fun t Bs => t.1 = true ∧ Bs = []) := by
  refine spec1 c_law27_known fun B hr => ?_
  haveI : FroP B GMax := ⟨hr.1, fun _ _ h s => GMax.mono _ _ h s⟩
  haveI : FroP B GTab := ⟨hr.2, fun _ _ h s => GTab.mono _ _ h s⟩
  unfold law27_known
  refine xparse levelC 0 0 (l := levelT) rfl level_parse fun sl => ?_
  refine xnew fun b => ?_
  iterate 7 (refine xset (h := ?_))
  iterate 7 (refine xget (h := ?_))
  refine xcall0 (Print_spec levelC sl) rdb ?_
  rintro ⟨t, e, _⟩ _ ⟨he, ht, rfl⟩
  simp only at he ht; subst he
  rw [if_pos level_ok, level_text] at ht
  subst ht
  refine app0 (ca2 (xjoin (xift (by rw [level_ok]; rfl) (xjoin (xift (by exact beq_self_eq_true _) (xget (h := xjoin (xift rfl (xget (h := xjoin ?_))))))))))
  refine xlen (E := TG) (xs := levelC.tags) sl (fun hn _ => ?_)
  have hn : (1 : Nat) = sl.n := hn
  refine xift (by rw [← hn]; rfl) (xget (h := ?_))
  refine xidx (E := TG) (xs := [levelTag]) (s := sl) (h0 := by decide) (h1 := by simp) (h := fun x hx => ?_)
  obtain rfl : x = levelTag := by simpa using hx.symm
  iterate 6 (refine xgetEj (E := TG) (xs := [levelTag]) hx (h := ?_))
  exact xkeep (l := []) (xret ⟨rfl, rfl⟩)

instance fro_all {B : Base} [a : FroP B GMax] [b : FroP B GTab] : FroP B GAll := ⟨⟨a.now, b.now⟩, fun g f h s => ⟨a.mono g f h.1 s, b.mono g f h.2 s⟩⟩

theorem xknown {K : Bool → WP} [FroP B GMax] [FroP B GTab] (h : Ent B As (K true)) : Ent B As (XCall Pr F_law27_known [] .one [.bool] K) := by
  refine xcall0 known_spec rdb ?_
  rintro ⟨t, _⟩ _ ⟨ht, rfl⟩
  obtain rfl : t = true := ht
  exact app0 (ca1 h)

theorem same_spec (c : Cfg) (s1 s2 : Sl) (hb : c.tags.length ≤ 1099511627776) : Ct Pr F_law27_same [c.v s1, c.v s2] .one [.bool] [] ((RAr TG s1 c.tags).and (RAr TG s2 c.tags)) (fun t Bs => t.1 = true ∧ Bs = []) := by
  refine spec1 c_law27_same fun B hr => ?_
  haveI f1 : Fro B s1 TG c.tags := ⟨hr.1⟩
  haveI f2 : Fro B s2 TG c.tags := ⟨hr.2⟩
  unfold law27_same
  refine xnew fun b => xnew fun b1 => xget (h := xget (h := ?_))
  iterate 5 (refine xjoin (xift (beq_self_eq_true _) (xget (h := xget (h := ?_)))))
  refine xjoin (xift (beq_self_eq_true _) (xget (h := xget (h := ?_))))
  refine xcall0 (SameTags_spec s1 s2 c.tags hb) rdb ?_
  rintro ⟨t, _⟩ _ ⟨ht, rfl⟩
  obtain rfl : t = true := ht
  exact app0 (ca1 (xkeep (l := []) (xret ⟨rfl, rfl⟩)))

theorem ConfigBack_spec (c : Cfg) (s : Sl) (hm : c.tags.length ≤ 1099511627744) : Ct Pr F_law27_ConfigBack [c.v s] .one [.bool] [] ((RAr TG s c.tags).and GAll) (fun t Bs => t.1 = true ∧ Bs = []) := by
  refine spec1 c_law27_ConfigBack fun B hr => ?_
  haveI : Fro B s TG c.tags := ⟨hr.1⟩
  haveI : FroP B GMax := ⟨hr.2.1, fun _ _ h s => GMax.mono _ _ h s⟩
  haveI : FroP B GTab := ⟨hr.2.2, fun _ _ h s => GTab.mono _ _ h s⟩
  unfold law27_ConfigBack
  refine xnew fun b => ?_
  iterate 7 (refine xget (h := ?_))
  refine xcall0 (Check27_spec c s) rdb ?_
  rintro ⟨e, _⟩ _ ⟨he, rfl⟩
  obtain rfl : e = cfgE c := he
  refine app0 (ca1 ?_)
  iterate 7 (refine xget (h := ?_))
  refine xcall0 (Print_spec c s) rdb ?_
  rintro ⟨t, e1, _⟩ _ ⟨he1, ht, rfl⟩
  simp only at he1 ht; subst he1
  refine app0 (ca2 (xiff (by simp) (xif (fun h => ?_) (fun h => ?_))))
  · have h : ¬ cfgE c = 0 := by simpa using h
    rw [if_neg h] at ht
    subst ht
    refine xjoin (xift (beq_self_eq_true _) (xknown (xkeep (l := []) (xret ⟨rfl, rfl⟩))))
  · have h : cfgE c = 0 := by simpa using h
    rw [if_pos h] at ht
    subst ht
    refine xparse c 0 0 (l := textL c) rfl (parse_text h) fun sl => ?_
    refine xnew fun b1 => ?_
    iterate 7 (refine xset (h := ?_))
    refine xjoin (xift rfl ?_)
    iterate 14 (refine xget (h := ?_))
    refine xcall0 (same_spec c s sl (by omega)) rdb ?_
    rintro ⟨t, _⟩ _ ⟨ht, rfl⟩
    obtain rfl : t = true := ht
    exact app0 (ca1 (xjoin (xift rfl (xknown (xkeep (l := []) (xret ⟨rfl, rfl⟩))))))

theorem ConfigOnly_spec (s : ByteArray) : Ct Pr F_law27_ConfigOnly [.string s] .one [.bool] [] GAll (fun t Bs => t.1 = true ∧ Bs = []) := by
  refine spec1 c_law27_ConfigOnly fun B hr => ?_
  haveI : FroP B GMax := ⟨hr.1, fun _ _ h s => GMax.mono _ _ h s⟩
  haveI : FroP B GTab := ⟨hr.2, fun _ _ h s => GTab.mono _ _ h s⟩
  unfold law27_ConfigOnly
  refine xif_dec (fun h => xknown (xret ⟨rfl, rfl⟩)) (fun h => ?_)
  have hl : s.data.toList.length = s.size := by rw [Array.length_toList]; rfl
  obtain ⟨c, at_, e, hp⟩ : ∃ c at_ e, parseM s.data.toList = (c, at_, e) := ⟨_, _, _, rfl⟩
  refine xparse c at_ e (l := s.data.toList) (BA_data s).symm hp fun sl => ?_
  refine xnew fun b => ?_
  iterate 7 (refine xset (h := ?_))
  refine xif (fun h1 => ?_) (fun h1 => ?_)
  · have h1 : ¬ e = 0 := by simpa using h1
    have hb := parse_bad (s := s.data.toList) (by omega) (by rw [hp]; exact h1)
    rw [hp] at hb
    obtain ⟨rfl, hat⟩ := hb
    have hat : 1 ≤ at_ := hat
    refine xjoin (xift (by simpa using hat) ?_)
    iterate 7 (refine xget (h := ?_))
    refine xnone TG ?_
    refine xcall0 (same_spec cfg0 sl ⟨none, 0, 0⟩ (by simp)) rdb ?_
    rintro ⟨t, _⟩ _ ⟨ht, rfl⟩
    obtain rfl : t = true := ht
    exact app0 (ca1 (xjoin (xift rfl (xknown (xkeep (l := []) (xret ⟨rfl, rfl⟩))))))
  · have h1 : e = 0 := by simpa using h1
    subst h1
    obtain ⟨rfl, hE, hT⟩ := parse_only hp
    iterate 7 (refine xget (h := ?_))
    refine xcall0 (Print_spec c sl) rdb ?_
    rintro ⟨t, e1, _⟩ _ ⟨he1, ht, rfl⟩
    simp only at he1 ht; subst he1
    rw [if_pos hE, hT, BA_data] at ht
    subst ht
    refine app0 (ca2 (xjoin (xift rfl ?_)))
    iterate 7 (refine xget (h := ?_))
    refine xcall0 (Check27_spec c sl) rdb ?_
    rintro ⟨e2, _⟩ _ ⟨he2, rfl⟩
    obtain rfl : e2 = cfgE c := he2
    rw [hE]
    exact app0 (ca1 (xjoin (xift rfl (xjoin (xift (beq_self_eq_true _) (xknown (xkeep (l := []) (xret ⟨rfl, rfl⟩))))))))

theorem parse_tagA {c : Cfg} (more : ByteArray) : ∃ (d : Cfg) (at_ e : Int), parseM (textL c ++ ([116, 97, 103, 32] ++ more.data.toList ++ [10])) = (d, at_, e) ∧ (cfgE c = 0 → (10 : UInt8) ∉ more.data.toList → more.data.toList.length ≤ 1000 → more.data.toList.count 32 ≠ 14 → at_ = ((c.tags.length + 2 : Nat) : Int) ∧ e = 33) := by
  refine ⟨(parseM (textL c ++ ([116, 97, 103, 32] ++ more.data.toList ++ [10]))).1, (parseM (textL c ++ ([116, 97, 103, 32] ++ more.data.toList ++ [10]))).2.1, (parseM (textL c ++ ([116, 97, 103, 32] ++ more.data.toList ++ [10]))).2.2, rfl, fun h1 h2 h3 h4 => ?_⟩
  rw [parse_tag h1 h2 h3 h4]
  exact ⟨rfl, rfl⟩

theorem ConfigLines_spec (c : Cfg) (s : Sl) (more : ByteArray) (hm : c.tags.length ≤ 1099511627744) : Ct Pr F_law27_ConfigLines [c.v s, .string more] .one [.bool] [] ((RAr TG s c.tags).and GAll) (fun t Bs => t.1 = true ∧ Bs = []) := by
  refine spec1 c_law27_ConfigLines fun B hr => ?_
  haveI : Fro B s TG c.tags := ⟨hr.1⟩
  haveI : FroP B GMax := ⟨hr.2.1, fun _ _ h s => GMax.mono _ _ h s⟩
  haveI : FroP B GTab := ⟨hr.2.2, fun _ _ h s => GTab.mono _ _ h s⟩
  have hsn : c.tags.length = s.n := hr.1.1
  unfold law27_ConfigLines
  refine xnew fun b => ?_
  iterate 7 (refine xget (h := ?_))
  refine xcall0 (Print_spec c s) rdb ?_
  rintro ⟨t, e1, _⟩ _ ⟨he1, ht, rfl⟩
  simp only at he1 ht; subst he1
  refine app0 (ca2 (xif (fun h => xknown (xkeep (l := []) (xret ⟨rfl, rfl⟩))) (fun h => ?_)))
  simp only [Bool.or_eq_false_iff, decide_eq_false_iff_not, bne_eq_false_iff_eq] at h
  obtain ⟨hE, hms⟩ := h
  rw [if_pos hE] at ht
  subst ht
  have hml : more.data.toList.length = more.size := by rw [Array.length_toList]; rfl
  have htl := text_len hE
  have htp : 1 ≤ (textL c).length := by
    unfold textL textK lineL
    simp; omega
  have hsz := BA_size (textL c)
  rw [wrap_id _ (by rw [hsz]; omega) (by rw [hsz]; omega)]
  refine xget (h := fun w hw => ⟨by decide, by rw [hsz]; omega, by rw [hsz]; omega, ?_⟩)
  revert w
  show Ent B _ _
  refine xparse cfg0 ((c.tags.length + 1 : Nat) : Int) 33 (l := (textL c).take ((textL c).length - 1)) ?_ (parse_cut hE) fun sl => ?_
  · apply ByteArray.ext
    rw [hsz]
    apply Array.toList_inj.1
    rw [show ((0 : Int)).toNat = 0 from rfl, show (((textL c).length : Int) - 1).toNat = (textL c).length - 1 by omega]
    rw [ByteArray.data_extract, Array.toList_extract, BA_list, BA_list]
    simp [List.extract]
  refine xnew fun b1 => ?_
  iterate 7 (refine xset (h := ?_))
  have e4 : ((⟨#[116, 97, 103, 32]⟩ : ByteArray)) = BA [116, 97, 103, 32] := rfl
  have e10 : ((⟨#[10]⟩ : ByteArray)) = BA [10] := rfl
  have em : more = BA more.data.toList := (BA_data more).symm
  have eA : ((BA (textL c) ++ (⟨#[116, 97, 103, 32]⟩ : ByteArray)) ++ more) ++ (⟨#[10]⟩ : ByteArray) = BA (textL c ++ ([116, 97, 103, 32] ++ more.data.toList ++ [10])) := by
    rw [e4, e10]
    conv => lhs; rw [em]
    rw [BA_app, BA_app, BA_app]; simp
  have eB : BA (textL c) ++ (⟨#[10]⟩ : ByteArray) = BA (textL c ++ [10]) := by rw [e10, BA_app]
  obtain ⟨d, at1, e1, hp1, hfact⟩ := parse_tagA (c := c) more
  refine xasrt (by rw [hsz, lit_size]; simp; omega) (xasrt (by rw [app_size, hsz, lit_size]; simp; omega) (xasrt (by rw [app_size, app_size, hsz, show (⟨#[10]⟩ : ByteArray).size = 1 from rfl, show (⟨#[116, 97, 103, 32]⟩ : ByteArray).size = 4 from rfl]; omega) ?_))
  refine xparse d at1 e1 eA hp1 fun sl1 => ?_
  refine xnew fun b2 => ?_
  iterate 7 (refine xset (h := ?_))
  refine xasrt (by rw [hsz, lit_size]; simp; omega) ?_
  refine xparse cfg0 ((c.tags.length + 2 : Nat) : Int) 33 eB (parse_nl hE) fun sl2 => ?_
  refine xnew fun b3 => ?_
  iterate 7 (refine xset (h := ?_))
  have w1 : IntKind.i64.wrap (1 + (s.n : Int)) = ((c.tags.length + 1 : Nat) : Int) := by rw [wrap_id _ (by omega) (by omega)]; omega
  have w2 : IntKind.i64.wrap (((c.tags.length + 1 : Nat) : Int) + 1) = ((c.tags.length + 2 : Nat) : Int) := by rw [wrap_id _ (by omega) (by omega)]; omega
  rw [w1, w2]
  refine xiff (by simp) ?_
  refine xkeep (l := []) ?_
  refine xloop2 (fun m (n : Int) (x : Int) As' => ∃ k : Nat, x = (k : Int) ∧ m = more.size - k ∧ k ≤ more.size ∧ n = ((more.data.toList.take k).count 32 : Nat) ∧ (10 : UInt8) ∉ more.data.toList.take k ∧ As' = []) more.size ⟨0, rfl, by omega, by omega, by simp, by simp, rfl⟩ ?_
  rintro m n x As' K ⟨k, rfl, rfl, hk, rfl, hno, rfl⟩ hK
  have hcl := List.count_le_length (a := (32 : UInt8)) (l := more.data.toList.take k)
  rw [List.length_take] at hcl
  refine xif_dec (fun hp => ?_) (fun hp => ?_)
  · have hp : k < more.size := by omega
    obtain ⟨y, hy⟩ := byte_at hp
    refine xbyte (k := k) rfl hy ?_
    refine xif (fun h1 => xknown (xret ⟨rfl, rfl⟩)) (fun h1 => ?_)
    have hy10 : ¬ y = 10 := by
      intro e; subst e
      simp at h1
    refine xbyte (k := k) rfl hy ?_
    have hsn := take_snoc27 hy
    have hcs : ((more.data.toList.take (k + 1)).count 32 : Nat) = (more.data.toList.take k).count 32 + (if y = 32 then 1 else 0) := by
      rw [← hsn, List.count_append]
      congr 1
      by_cases e : y = 32
      · subst e; rfl
      · rw [if_neg e]
        simp [List.count_cons, e]
    have hno' : (10 : UInt8) ∉ more.data.toList.take (k + 1) := by
      rw [← hsn]
      simp only [List.mem_append, List.mem_singleton, not_or]
      exact ⟨hno, fun e => hy10 e.symm⟩
    refine xjoin (xif (fun h2 => ?_) (fun h2 => ?_))
    · have h2 : y.toNat = 32 := by
        have : (y.toNat : Int) = 32 := by simpa using h2
        omega
      have h2 : y = 32 := UInt8.toNat_inj.1 h2
      rw [if_pos h2] at hcs
      rw [wrap_succ k (by omega), wrap_succ _ (by omega)]
      exact hK _ _ _ _ (by omega) ⟨k + 1, rfl, rfl, by omega, by first | (rw [hcs]; done) | (rw [hcs]; rfl), hno', rfl⟩
    · have h2 : ¬ y = 32 := by intro e; subst e; simp at h2
      rw [if_neg h2] at hcs
      rw [wrap_succ k (by omega)]
      exact hK _ _ _ _ (by omega) ⟨k + 1, rfl, rfl, by omega, by first | (rw [hcs]; done) | (rw [hcs]; rfl), hno', rfl⟩
  · obtain rfl : k = more.size := by omega
    rw [List.take_of_length_le (by omega)] at hno ⊢
    refine xjoin (xif (fun h1 => xjoin (xift rfl (xknown (xret ⟨rfl, rfl⟩)))) (fun h1 => ?_))
    have h1 : more.data.toList.count 32 ≠ 14 := by
      intro e; rw [e] at h1; simp at h1
    obtain ⟨rfl, rfl⟩ := hfact hE hno (by omega) h1
    exact xjoin (xift (by simp) (xknown (xret ⟨rfl, rfl⟩)))

/-! The chapter's examples. -/
theorem facts1 : ((List.range 21).all fun i => match texts1[i]?, nos1[i]? with
    | some x, some n => decide ((parseM x).2.2 = n) && (((parseM x).2.1 != 0) == (n != 0)) && decide ((parseM x).2.1 ≤ 1)
    | _, _ => false) = true := by decide +kernel
theorem facts2 : ((List.range 15).all fun i => match texts2[i]?, nos2[i]? with
    | some x, some n => decide ((parseM (headT ++ x)).2.2 = n) && !(((parseM (headT ++ x)).2.1 != 2) && (n != 0)) && !(((parseM (headT ++ x)).2.1 != 0) && (n == 0))
    | _, _ => false) = true := by decide +kernel
theorem facts3 : (parseM (headT ++ tagT ++ tagT)).2 = (3, 7) ∧ (parseM (headT ++ tagT ++ tagT2)).2 = (3, 29) := by decide +kernel

theorem xparseA {K : Int → Int → Int → Int → Int → Int → Sl → Int → Int → WP} [r : Rdb B As GMax] {s : ByteArray} {l : List UInt8} (hs : s = BA l)
    (h : ∀ (c : Cfg) (sl : Sl), Ent B (Ar TG sl c.tags :: As) (K c.timeout c.retries c.window c.resend c.span c.keep sl (parseM l).2.1 (parseM l).2.2)) :
    Ent B As (XCall Pr F_config_Parse [.string s] (.tup [some 7, none, none]) [.int .i64, .int .i64, .int .i64, .int .i64, .int .i64, .int .i64, .slice, .int .i64, .int .i64] K) :=
  xparse (parseM l).1 _ _ hs rfl fun sl => h _ sl

theorem map_get {xs : List (List UInt8)} {k : Nat} {t : ByteArray} (h : (xs.map BA)[k]? = some t) : ∃ x, xs[k]? = some x ∧ t = BA x := by
  rw [List.getElem?_map] at h
  obtain ⟨x, hx, rfl⟩ := Option.map_eq_some_iff.1 h
  exact ⟨x, hx, rfl⟩

theorem ConfigKnown_spec : Ct Pr F_law27_ConfigKnown [] .one [.bool] [] GAll (fun t Bs => t.1 = true ∧ Bs = []) := by
  refine spec1 c_law27_ConfigKnown fun B hr => ?_
  haveI : FroP B GMax := ⟨hr.1, fun _ _ h s => GMax.mono _ _ h s⟩
  haveI : FroP B GTab := ⟨hr.2, fun _ _ h s => GTab.mono _ _ h s⟩
  unfold law27_ConfigKnown
  refine xnew fun b => ?_
  refine xfold1 (Q := Ar Cf.ST ⟨some ⟨b, 0, none⟩, 21, 21⟩ (texts1.map BA)) 0 (fun g hg => ⟨[], blk_ar (texts1.map BA) 21 rfl rfl hg⟩) ?_
  refine xnew fun b1 => ?_
  refine xfold1 (Q := Ar I64 ⟨some ⟨b1, 0, none⟩, 21, 21⟩ nos1) 0 (fun g hg => ⟨[], blk_ar nos1 21 rfl rfl hg⟩) ?_
  refine xloop1 (fun m (x : Int) As' => ∃ k : Nat, x = (k : Int) ∧ m = 21 - k ∧ k ≤ 21 ∧ As' = [Ar I64 ⟨some ⟨b1, 0, none⟩, 21, 21⟩ nos1, Ar Cf.ST ⟨some ⟨b, 0, none⟩, 21, 21⟩ (texts1.map BA)]) 21 ⟨0, rfl, rfl, by omega, rfl⟩ ?_
  rintro m x As' K ⟨k, rfl, rfl, hk, rfl⟩ hK
  refine xif_dec (fun hp => ?_) (fun hp => ?_)
  · have hp : k < 21 := by omega
    refine xidxn (E := Cf.ST) (xs := texts1.map BA) (s := ⟨some ⟨b, 0, none⟩, 21, 21⟩) (h1 := by rw [List.length_map]; exact hp) (h := fun t ht => ?_)
    refine xgetE (E := Cf.ST) (xs := texts1.map BA) ht (h := ?_)
    obtain ⟨x, hx, rfl⟩ := map_get ht
    refine xparseA rfl fun c sl => ?_
    refine xnew fun b2 => ?_
    iterate 7 (refine xset (h := ?_))
    have hf := List.all_eq_true.1 facts1 k (List.mem_range.2 hp)
    refine xidxn (E := I64) (xs := nos1) (s := ⟨some ⟨b1, 0, none⟩, 21, 21⟩) (h1 := hp) (h := fun n hn => ?_)
    refine xgetE (E := I64) (xs := nos1) hn (h := ?_)
    rw [hx, hn] at hf
    simp only [Bool.and_eq_true, decide_eq_true_eq, beq_iff_eq] at hf
    obtain ⟨⟨f1, f2⟩, f3⟩ := hf
    refine xjoin (xiff (by rw [f1]; simp) ?_)
    refine xidxn (E := I64) (xs := nos1) (s := ⟨some ⟨b1, 0, none⟩, 21, 21⟩) (h1 := hp) (h := fun n' hn' => ?_)
    refine xgetE (E := I64) (xs := nos1) hn' (h := ?_)
    obtain rfl : n = n' := by rw [hn] at hn'; exact Option.some.inj hn'
    refine xiff (by rw [f2]; simp; exact f3) ?_
    rw [wrap_succ k (by omega)]
    exact xuse [Ar I64 ⟨some ⟨b1, 0, none⟩, 21, 21⟩ nos1, Ar Cf.ST ⟨some ⟨b, 0, none⟩, 21, 21⟩ (texts1.map BA)] (hK _ _ _ (by omega) ⟨k + 1, rfl, rfl, by omega, rfl⟩)
  refine xkeep (l := []) ?_
  refine xnew fun b3 => ?_
  refine xfold1 (Q := Ar Cf.ST ⟨some ⟨b3, 0, none⟩, 15, 15⟩ (texts2.map BA)) 0 (fun g hg => ⟨[], blk_ar (texts2.map BA) 15 rfl rfl hg⟩) ?_
  refine xnew fun b4 => ?_
  refine xfold1 (Q := Ar I64 ⟨some ⟨b4, 0, none⟩, 15, 15⟩ nos2) 0 (fun g hg => ⟨[], blk_ar nos2 15 rfl rfl hg⟩) ?_
  refine xloop1 (fun m (x : Int) As' => ∃ k : Nat, x = (k : Int) ∧ m = 15 - k ∧ k ≤ 15 ∧ As' = [Ar I64 ⟨some ⟨b4, 0, none⟩, 15, 15⟩ nos2, Ar Cf.ST ⟨some ⟨b3, 0, none⟩, 15, 15⟩ (texts2.map BA)]) 15 ⟨0, rfl, rfl, by omega, rfl⟩ ?_
  rintro m x As' K2 ⟨j, rfl, rfl, hj, rfl⟩ hK2
  refine xif_dec (fun hp => ?_) (fun hp => ?_)
  · have hp : j < 15 := by omega
    refine xidxn (E := Cf.ST) (xs := texts2.map BA) (s := ⟨some ⟨b3, 0, none⟩, 15, 15⟩) (h1 := by rw [List.length_map]; exact hp) (h := fun t ht => ?_)
    refine xgetE (E := Cf.ST) (xs := texts2.map BA) ht (h := ?_)
    obtain ⟨x, hx, rfl⟩ := map_get ht
    have hlen : x.length ≤ 100 := by
      have : ∀ y ∈ texts2, y.length ≤ 100 := by decide
      exact this x (List.mem_of_getElem? hx)
    refine xasrt (by rw [lit_size, BA_size]; simp; omega) ?_
    refine xparseA (l := headT ++ x) (BA_app headT x) fun c sl => ?_
    refine xnew fun b5 => ?_
    iterate 7 (refine xset (h := ?_))
    have hf := List.all_eq_true.1 facts2 j (List.mem_range.2 hp)
    refine xidxn (E := I64) (xs := nos2) (s := ⟨some ⟨b4, 0, none⟩, 15, 15⟩) (h1 := hp) (h := fun n hn => ?_)
    refine xgetE (E := I64) (xs := nos2) hn (h := ?_)
    rw [hx, hn] at hf
    simp only [Bool.and_eq_true, decide_eq_true_eq, Bool.not_eq_true'] at hf
    obtain ⟨⟨f1, f2⟩, f3⟩ := hf
    refine xjoin (xiff (by rw [f1]; simp) ?_)
    refine xjoin1 (fun (c : Bool) As' => c = false ∧ As' = [Ar I64 ⟨some ⟨b4, 0, none⟩, 15, 15⟩ nos2, Ar Cf.ST ⟨some ⟨b3, 0, none⟩, 15, 15⟩ (texts2.map BA)]) (fun K3 hK3 => ?_) ?_
    · refine xif (fun h1 => ?_) (fun h1 => xuse [Ar I64 ⟨some ⟨b4, 0, none⟩, 15, 15⟩ nos2, Ar Cf.ST ⟨some ⟨b3, 0, none⟩, 15, 15⟩ (texts2.map BA)] (hK3 _ _ ⟨rfl, rfl⟩))
      refine xidxn (E := I64) (xs := nos2) (s := ⟨some ⟨b4, 0, none⟩, 15, 15⟩) (h1 := hp) (h := fun n' hn' => ?_)
      refine xgetE (E := I64) (xs := nos2) hn' (h := ?_)
      obtain rfl : n = n' := by rw [hn] at hn'; exact Option.some.inj hn'
      rw [h1, Bool.true_and] at f2
      exact xuse [Ar I64 ⟨some ⟨b4, 0, none⟩, 15, 15⟩ nos2, Ar Cf.ST ⟨some ⟨b3, 0, none⟩, 15, 15⟩ (texts2.map BA)] (hK3 _ _ ⟨f2, rfl⟩)
    rintro c1 As2 ⟨rfl, rfl⟩
    refine xjoin (xiff rfl ?_)
    refine xjoin1 (fun (c : Bool) As' => c = false ∧ As' = [Ar I64 ⟨some ⟨b4, 0, none⟩, 15, 15⟩ nos2, Ar Cf.ST ⟨some ⟨b3, 0, none⟩, 15, 15⟩ (texts2.map BA)]) (fun K3 hK3 => ?_) ?_
    · refine xif (fun h1 => ?_) (fun h1 => hK3 _ _ ⟨rfl, rfl⟩)
      refine xidxn (E := I64) (xs := nos2) (s := ⟨some ⟨b4, 0, none⟩, 15, 15⟩) (h1 := hp) (h := fun n' hn' => ?_)
      refine xgetE (E := I64) (xs := nos2) hn' (h := ?_)
      obtain rfl : n = n' := by rw [hn] at hn'; exact Option.some.inj hn'
      rw [h1, Bool.true_and] at f3
      exact hK3 _ _ ⟨f3, rfl⟩
    rintro c1 As2 ⟨rfl, rfl⟩
    refine xiff rfl ?_
    rw [wrap_succ j (by omega)]
    exact hK2 _ _ _ (by omega) ⟨j + 1, rfl, rfl, by omega, rfl⟩
  refine xasrt (by decide +kernel) (xasrt (by decide +kernel) ?_)
  refine xparseA (l := headT ++ tagT ++ tagT) (by rw [← BA_app, ← BA_app]; rfl) fun c1 sl1 => ?_
  refine xnew fun b6 => ?_
  iterate 7 (refine xset (h := ?_))
  refine xasrt (by decide +kernel) (xasrt (by decide +kernel) ?_)
  refine xparseA (l := headT ++ tagT ++ tagT2) (by rw [← BA_app, ← BA_app]; rfl) fun c2 sl2 => ?_
  refine xnew fun b7 => ?_
  iterate 7 (refine xset (h := ?_))
  rw [facts3.1, facts3.2]
  exact xjoin (xift rfl (xknown (xkeep (l := []) (xret ⟨rfl, rfl⟩))))

end Go.Cx
