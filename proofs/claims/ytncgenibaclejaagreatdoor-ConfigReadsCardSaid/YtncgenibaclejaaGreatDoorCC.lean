/-
  Print.
-/
import Derived.Test.YtncgenibaclejaaGreatDoorCB
namespace Go.Cx
open Go Go.Cf
set_option linter.unusedVariables false
set_option maxRecDepth 100000
variable {B : Base} {As F : List HP}

theorem wordOf_spec (k : Int) : Ct Pr F_config_wordOf [.int .i64 k] .one [.str] [] emp (fun t Bs => t.1 = BA (kindL k) ∧ Bs = []) := by
  refine spec1 c_config_wordOf fun B hr => ?_
  unfold config_wordOf
  refine xif (fun h => xret ⟨?_, rfl⟩) (fun h => xif (fun h1 => xret ⟨?_, rfl⟩) (fun h1 => xif (fun h2 => xret ⟨?_, rfl⟩) (fun h2 => xret ⟨?_, rfl⟩)))
  all_goals
    simp only [beq_iff_eq, beq_eq_false_iff_ne, ne_eq] at *
    simp_all [kindL, BA]

theorem num_spec (b : Nat) (l vs : Sl) (xs : List ByteArray) (ns : List Int) (hx : xs.length + ns.length ≤ 1000) (hn : ∀ n ∈ ns, -9223372036854775808 ≤ n ∧ n ≤ 9223372036854775807) :
    Ct Pr F_config_Print_1 [vs.v, .pointer (some ⟨b, 0, none⟩)] (.tup []) [] [Blk b [l.v], Ar Cf.ST l xs] ((RAr I64 vs ns).and GTab) (fun _ Bs => ∃ l' : Sl, Bs = [Blk b [l'.v], Ar Cf.ST l' (xs ++ ns.map numB)]) := by
  refine spec0 c_config_Print_1 fun B hr => ?_
  haveI : Fro B vs I64 ns := ⟨hr.1⟩
  haveI : FroP B GTab := ⟨hr.2, fun _ _ h s => GTab.mono _ _ h s⟩
  have h1 := hr.1.1
  unfold config_Print_1
  refine xloop1 (fun m (x : Int) As' => ∃ (k : Nat) (l' : Sl), x = (k : Int) ∧ m = ns.length - k ∧ k ≤ ns.length ∧ As' = [Blk b [l'.v], Ar Cf.ST l' (xs ++ (ns.take k).map numB)]) ns.length ⟨0, l, rfl, by omega, by omega, by simp⟩ ?_
  rintro m x As' K ⟨k, l', rfl, rfl, hk, rfl⟩ hK
  refine xif_dec (fun hp => ?_) (fun hp => ?_)
  · have hp : k < ns.length := by omega
    refine xidxn (E := I64) (xs := ns) (s := vs) (h1 := hp) (h := fun n hnk => ?_)
    refine xgetE (E := I64) (xs := ns) hnk (h := xdraw (xget (h := ?_)))
    obtain ⟨n0, n1⟩ := hn n (List.mem_of_getElem? hnk)
    refine xcall0 (Itoa_spec n n0 n1) rdb ?_
    rintro ⟨t, _⟩ _ ⟨ht, rfl⟩
    obtain rfl : t = numB n := ht
    refine app0 (ca1 (xchk (h := xnew fun b1 => ?_)))
    refine xapp1 (E := Cf.ST) (numB n) (hb := by simp; omega) (h := fun s2 => xset (h := ?_))
    have e : xs ++ (ns.take k).map numB ++ [numB n] = xs ++ (ns.take (k + 1)).map numB := by
      rw [← take_snoc27 hnk, List.map_append, List.append_assoc]; rfl
    rw [e, wrap_succ k (by omega)]
    exact xuse [Blk b [s2.v], Ar Cf.ST s2 (xs ++ (ns.take (k + 1)).map numB)] (hK _ _ _ (by omega) ⟨k + 1, s2, rfl, rfl, by omega, rfl⟩)
  · have hk' : k = ns.length := by omega
    rw [hk', List.take_of_length_le (Nat.le_refl _)]
    exact xret ⟨l', rfl⟩

abbrev numV (b : Nat) : Value := .func (.func 20) #[] #[.pointer (some ⟨b, 0, none⟩)]

theorem hasNum : hasBody Pr 20 = true := by kernel_rfl

/-- num(..) through its variable. -/
theorem xnum {b bv n : Nat} {l : Sl} {xs : List ByteArray} (ns : List Int) {K : WP} {G : List HP} [s : Split [Blk b [l.v], Ar Cf.ST l xs] As G] [r : Rdb B G ((RAr I64 ⟨some ⟨bv, 0, none⟩, n, n⟩ ns).and GTab)]
    (hx : xs.length + ns.length ≤ 1000) (hn : ∀ m ∈ ns, -9223372036854775808 ≤ m ∧ m ≤ 9223372036854775807)
    (h : ∀ l' : Sl, Ent B (Blk b [l'.v] :: Ar Cf.ST l' (xs ++ ns.map numB) :: G) K) : Ent B As (XDyn0 Pr (numV b) [.slice (some ⟨bv, 0, none⟩) n n] K) := by
  refine xdyn hasNum ?_
  refine xcl (num_spec b l ⟨some ⟨bv, 0, none⟩, n, n⟩ xs ns hx hn) rdb ?_
  rintro _ _ ⟨l', rfl⟩
  exact app2 (h l')

theorem bound_spec27 (b b2 : Nat) (l : Sl) (xs : List ByteArray) (v : Int) (use : Bool) (hx : xs.length ≤ 100) (h0 : -9223372036854775808 ≤ v) (h1 : v ≤ 9223372036854775807) :
    Ct Pr F_config_Print_2 [.int .i64 v, .bool use, .pointer (some ⟨b2, 0, none⟩), .pointer (some ⟨b, 0, none⟩)] (.tup []) [] [Blk b2 [numV b], Blk b [l.v], Ar Cf.ST l xs] GTab (fun _ Bs => ∃ l' : Sl, Bs = [Blk b2 [numV b], Blk b [l'.v], Ar Cf.ST l' (xs ++ [BA (boundL v use)])]) := by
  refine spec0 c_config_Print_2 fun B hr => ?_
  haveI : FroP B GTab := ⟨hr, fun _ _ h s => GTab.mono _ _ h s⟩
  unfold config_Print_2
  refine xjoin (xif (fun h => ?_) (fun h => ?_))
  · refine xget (s := .val) (x := numV b) (h := xnew fun b3 => ?_)
    refine xfold1 (Q := Ar I64 ⟨some ⟨b3, 0, none⟩, 1, 1⟩ [v]) 0 (fun g hg => ⟨[], blk_ar [v] 1 rfl rfl hg⟩) ?_
    refine xnum (b := b) (l := l) (xs := xs) [v] (by simp; omega) (by simpa using ⟨h0, h1⟩) fun l' => ?_
    rw [h]
    exact xuse [Blk b2 [numV b], Blk b [l'.v], Ar Cf.ST l' (xs ++ List.map numB [v])] (xret ⟨l', rfl⟩)
  · refine xget (h := xnew fun b3 => ?_)
    refine xapp1 (E := Cf.ST) (BA [45]) (hb := by omega) (h := fun s2 => xset (h := ?_))
    rw [h]
    exact xuse [Blk b2 [numV b], Blk b [s2.v], Ar Cf.ST s2 (xs ++ [BA [45]])] (xret ⟨s2, rfl⟩)

/-- A kind of letter and whether it stands. -/
def BT : Enc (Bool × ByteArray) := ⟨fun q => [.bool q.1, .string q.2], 2, fun _ => rfl, fun t v h => by
  simp only [List.mem_cons, List.not_mem_nil, or_false] at h
  rcases h with h|h <;> (subst h; rfl), by decide, (false, ByteArray.empty)⟩
def flg (w s x : Bool) : List (Bool × ByteArray) := [(w, BA [119]), (s, BA [115]), (x, BA [120])]
def flgK (w s x : Bool) (k : Nat) : List UInt8 := ((flg w s x).take k).flatMap fun q => if q.1 then q.2.data.toList else []
theorem flgK_len (w s x : Bool) (k : Nat) : (flgK w s x k).length ≤ 3 := by
  unfold flgK flg
  match k with
  | 0 => simp
  | 1 => cases w <;> simp [BA]
  | 2 => cases w <;> cases s <;> simp [BA]
  | k + 3 => cases w <;> cases s <;> cases x <;> simp [BA]
theorem flgK_succ {w s x : Bool} {k : Nat} {q : Bool × ByteArray} (h : (flg w s x)[k]? = some q) : flgK w s x (k + 1) = flgK w s x k ++ (if q.1 then q.2.data.toList else []) := by
  unfold flgK
  rw [← take_snoc27 h]; simp
theorem flgK_all (w s x : Bool) : (if flgK w s x 3 = [] then [45] else flgK w s x 3) = flagL w s x := by cases w <;> cases s <;> cases x <;> decide

theorem join_BA (ws : List (List UInt8)) (s : List UInt8) : Lib.join ((ws.map BA).map (·.data.toList)) s = Lib.join ws s := by
  congr 1
  rw [List.map_map]
  conv => rhs; rw [← List.map_id ws]
  exact List.map_congr_left fun w _ => BA_list w

/-- strings.Join over words of the model. -/
theorem xjoinS {s : Sl} {ws : List (List UInt8)} {xs : List ByteArray} {K : ByteArray → WP} (hxs : xs = ws.map BA) [r : Rdb B As (RAr Cf.ST s xs)] (hN : xs.length ≤ 1000) (hc : s.n ≤ s.c) (hlen : (Lib.join ws [32]).length ≤ 1000000)
    (h : Ent B As (K (BA (Lib.join ws [32])))) : Ent B As (XCall Pr F_strings_Join [s.v, .string (⟨#[32]⟩ : ByteArray)] .one [.str] K) := by
  subst hxs
  have e : Lib.join ((ws.map BA).map (·.data.toList)) ((⟨#[32]⟩ : ByteArray).data.toList) = Lib.join ws [32] := join_BA ws [32]
  refine xcall0 (Join_spec s (ws.map BA) ⟨#[32]⟩ (by omega) hc (by rw [e]; omega)) rdb ?_
  rintro ⟨t, _⟩ _ ⟨ht, rfl⟩
  simp only at ht
  rw [e] at ht
  obtain rfl : t = BA (Lib.join ws [32]) := ht
  exact app0 (ca1 h)

theorem Print_spec (c : Cfg) (s : Sl) : Ct Pr F_config_Print [c.v s] (.tup [none, none]) [.str, .int .i64] [] ((RAr TG s c.tags).and GTab) (fun t Bs => t.2.1 = cfgE c ∧ t.1 = (if cfgE c = 0 then BA (textL c) else ByteArray.empty) ∧ Bs = []) := by
  refine spec2 c_config_Print fun B hr => ?_
  haveI : Fro B s TG c.tags := ⟨hr.1⟩
  haveI : FroP B GTab := ⟨hr.2, fun _ _ h s => GTab.mono _ _ h s⟩
  have hn := hr.1.1
  unfold config_Print
  refine xnew fun b => ?_
  iterate 7 (refine xget (h := ?_))
  refine xcall0 (Check27_spec c s) rdb ?_
  rintro ⟨e, _⟩ _ ⟨he, rfl⟩
  obtain rfl : e = cfgE c := he
  refine app0 (ca1 (xif (fun h => xkeep (l := []) (xret ⟨rfl, ?_, rfl⟩)) (fun h => ?_)))
  · rw [if_neg (by simpa using h)]
  have h0 : cfgE c = 0 := by simpa using h
  rw [if_pos h0, h0]
  obtain ⟨ho, ha⟩ := cfg_ok h0
  have hl := allE_len ha
  obtain ⟨a1, a2, b1, b2, c1, c2, d1, d2, e1, e2, f1, f2⟩ := own_all ho
  refine xnew fun b1 => xnew fun b2 => xset (h := ?_)
  refine xget (s := .slice) (x := ⟨none, 0, 0⟩) (h := xnew fun b3 => ?_)
  refine xnone Cf.ST ?_
  refine xapp1 (E := Cf.ST) (BA [103, 97, 116, 101, 119, 97, 121]) (hb := by simp) (h := fun l1 => xset (h := ?_))
  refine xget (s := .val) (x := numV b1) (h := ?_)
  iterate 6 (refine xget (h := ?_))
  refine xnew fun b4 => ?_
  refine xfold1 (Q := Ar I64 ⟨some ⟨b4, 0, none⟩, 6, 6⟩ [c.timeout, c.retries, c.window, c.resend, c.span, c.keep]) 0 (fun g hg => ⟨[], blk_ar [c.timeout, c.retries, c.window, c.resend, c.span, c.keep] 6 rfl rfl hg⟩) ?_
  refine xnum (b := b1) (l := l1) (xs := [] ++ [BA [103, 97, 116, 101, 119, 97, 121]]) [c.timeout, c.retries, c.window, c.resend, c.span, c.keep] (by simp) (by
    intro m hm
    simp only [List.mem_cons, List.not_mem_nil, or_false] at hm
    omega) fun l2 => ?_
  refine xfold1 (Q := Ar Cf.ST l2 ((headW c).map BA)) 1 (fun g hg => hg) ?_
  refine xget (h := ?_)
  refine xlen l2 (fun hl2 hc2 => ?_)
  have hhl := headW_len ho
  have hhj : (Lib.join (headW c) [32]).length ≤ 200 := by simp only [lineL, List.length_append] at hhl; omega
  refine xjoinS (ws := headW c) rfl (by simp [headW]) hc2 (by omega) ?_
  refine xasrt (by rw [BA_size, lit_size]; simp; omega) (xget (h := ?_))
  have e10 : BA (Lib.join (headW c) [32]) ++ (⟨#[10]⟩ : ByteArray) = BA (textK c 0) := by
    rw [show (⟨#[10]⟩ : ByteArray) = BA [10] from rfl, BA_app]
    simp [textK, lineL]
  rw [e10]
  refine xuse [Blk b1 [l2.v], Ar Cf.ST l2 ((headW c).map BA), Blk b2 [numV b1], Blk b (c.cs s)] ?_
  refine xloop2 (fun m (t : ByteArray) (x : Int) As' => ∃ (k : Nat) (l : Sl) (xs : List ByteArray), x = (k : Int) ∧ m = c.tags.length - k ∧ k ≤ c.tags.length ∧ t = BA (textK c k) ∧ As' = [Blk b1 [l.v], Ar Cf.ST l xs, Blk b2 [numV b1], Blk b (c.cs s)]) c.tags.length ⟨0, l2, _, rfl, by omega, by omega, rfl, rfl⟩ ?_
  rintro m t x As' K ⟨k, l, xs, rfl, rfl, hk, rfl, rfl⟩ hK
  refine xif_dec (fun hp => ?_) (fun hp => ?_)
  rotate_left
  · obtain rfl : k = c.tags.length := by omega
    exact xkeep (l := []) (xret ⟨rfl, rfl, rfl⟩)
  have hp : k < c.tags.length := by omega
  refine xidxn (E := TG) (xs := c.tags) (s := s) (h1 := hp) (h := fun t ht => ?_)
  refine xgetE (E := TG) (xs := c.tags) ht (h := ?_)
  iterate 18 (refine xgetEj (E := TG) (xs := c.tags) ht (h := ?_))
  obtain ⟨n0, ⟨u1, u2⟩, ⟨k1, k2⟩, ⟨a1, a2⟩, ⟨e1, e2⟩, ⟨m1, m2⟩, ⟨d1, d2⟩, ⟨p1, p2⟩, ⟨q1, q2⟩, ⟨r1, r2⟩, ⟨l1, l2⟩, ⟨g1, g2⟩, ⟨y1, y2⟩⟩ := tag_all (allE_tag ha ht)
  have htl := tagW_len (tag_all (allE_tag ha ht))
  have hxl := textK_len h0 k (by omega)
  refine xnew fun b5 => ?_
  iterate 19 (refine xset (h := ?_))
  refine xfold1 (Q := Blk b5 t.cells) 0 (fun g hg => hg) ?_
  refine xget (h := xnew fun b6 => ?_)
  refine xfold1 (Q := Ar Cf.ST ⟨some ⟨b6, 0, none⟩, 2, 2⟩ [BA [116, 97, 103], t.name]) 0 (fun g hg => ⟨[], blk_ar [BA [116, 97, 103], t.name] 2 rfl rfl hg⟩) ?_
  refine xset (h := ?_)
  obtain ⟨s6, hs6⟩ : ∃ s : Sl, s = ⟨some ⟨b6, 0, none⟩, 2, 2⟩ := ⟨_, rfl⟩
  refine xuse [Blk b1 [.slice (some ⟨b6, 0, none⟩) 2 2], Ar Cf.ST ⟨some ⟨b6, 0, none⟩, 2, 2⟩ [BA [116, 97, 103], t.name], Blk b5 t.cells, Blk b2 [numV b1], Blk b (c.cs s)] ?_
  refine xfold1 (Q := Blk b1 [s6.v]) 0 (fun g hg => by subst hs6; exact hg) ?_
  refine xfold1 (Q := Ar Cf.ST s6 [BA [116, 97, 103], t.name]) 1 (fun g hg => by subst hs6; exact hg) ?_
  clear hs6
  refine xget (s := .val) (x := numV b1) (h := xget (h := xnew fun b7 => ?_))
  refine xfold1 (Q := Ar I64 ⟨some ⟨b7, 0, none⟩, 1, 1⟩ [t.unit]) 0 (fun g hg => ⟨[], blk_ar [t.unit] 1 rfl rfl hg⟩) ?_
  refine xnum (b := b1) (l := s6) (xs := [BA [116, 97, 103], t.name]) [t.unit] (by simp) (by simp; omega) fun l1' => ?_
  refine xdraw (xget (h := xget (h := ?_)))
  refine xcall0 (wordOf_spec t.kind) rdb ?_
  rintro ⟨w, _⟩ _ ⟨hw, rfl⟩
  obtain rfl : w = BA (kindL t.kind) := hw
  refine app0 (ca1 (xchk (h := xnew fun b8 => ?_)))
  refine xapp1 (E := Cf.ST) (BA (kindL t.kind)) (hb := by simp) (h := fun l2' => xset (h := ?_))
  refine xget (s := .val) (x := numV b1) (h := xget (h := xget (h := xnew fun b9 => ?_)))
  refine xfold1 (Q := Ar I64 ⟨some ⟨b9, 0, none⟩, 2, 2⟩ [t.addr, t.every]) 0 (fun g hg => ⟨[], blk_ar [t.addr, t.every] 2 rfl rfl hg⟩) ?_
  refine xnum (b := b1) (l := l2') (xs := [BA [116, 97, 103], t.name] ++ [t.unit].map numB ++ [BA (kindL t.kind)]) [t.addr, t.every] (by simp) (by simp; omega) fun l3 => ?_
  iterate 3 (refine xget (h := ?_))
  refine xnew fun b10 => ?_
  refine xfold1 (Q := Ar BT ⟨some ⟨b10, 0, none⟩, 3, 3⟩ (flg t.wide t.sgn t.swap)) 0 (fun g hg => ⟨[], blk_ar (flg t.wide t.sgn t.swap) 3 rfl rfl hg⟩) ?_
  generalize hX : [BA [116, 97, 103], t.name] ++ [t.unit].map numB ++ [BA (kindL t.kind)] ++ [t.addr, t.every].map numB = X
  have hXl : X.length = 6 := by rw [← hX]; rfl
  refine xuse [Ar BT ⟨some ⟨b10, 0, none⟩, 3, 3⟩ (flg t.wide t.sgn t.swap), Blk b1 [l3.v], Ar Cf.ST l3 X, Blk b5 t.cells, Blk b2 [numV b1], Blk b (c.cs s)] ?_
  refine xloop2 (fun m (f : ByteArray) (x : Int) As' => ∃ j : Nat, x = (j : Int) ∧ m = 3 - j ∧ j ≤ 3 ∧ f = BA (flgK t.wide t.sgn t.swap j) ∧ As' = [Ar BT ⟨some ⟨b10, 0, none⟩, 3, 3⟩ (flg t.wide t.sgn t.swap), Blk b1 [l3.v], Ar Cf.ST l3 X, Blk b5 t.cells, Blk b2 [numV b1], Blk b (c.cs s)]) 3 ⟨0, rfl, rfl, by omega, rfl, rfl⟩ ?_
  rintro m f x As' K2 ⟨j, rfl, rfl, hj, rfl, rfl⟩ hK2
  have hfl := flgK_len t.wide t.sgn t.swap j
  refine xif_dec (fun hp2 => ?_) (fun hp2 => ?_)
  · have hp2 : j < 3 := by omega
    refine xidxn (E := BT) (xs := flg t.wide t.sgn t.swap) (s := ⟨some ⟨b10, 0, none⟩, 3, 3⟩) (h1 := hp2) (h := fun q hq => ?_)
    refine xgetE (E := BT) (xs := flg t.wide t.sgn t.swap) hq (h := xgetEj (E := BT) (xs := flg t.wide t.sgn t.swap) hq (h := xnew fun b11 => ?_))
    refine xset (h := xset (h := xget (h := ?_)))
    have hsucc := flgK_succ hq
    have hql : q.2.size = 1 := by
      match j, hp2 with
      | 0, _ => obtain rfl := Option.some.inj hq; rfl
      | 1, _ => obtain rfl := Option.some.inj hq; rfl
      | 2, _ => obtain rfl := Option.some.inj hq; rfl
    have next : ∀ {As : List HP} {G : List HP} [Split [Ar BT ⟨some ⟨b10, 0, none⟩, 3, 3⟩ (flg t.wide t.sgn t.swap), Blk b1 [l3.v], Ar Cf.ST l3 X, Blk b5 t.cells, Blk b2 [numV b1], Blk b (c.cs s)] As G], Ent B As (K2 (BA (flgK t.wide t.sgn t.swap (j + 1))) (IntKind.i64.wrap ((j : Int) + 1))) := by
      intro As G _
      rw [wrap_succ j (by omega)]
      exact xuse [Ar BT ⟨some ⟨b10, 0, none⟩, 3, 3⟩ (flg t.wide t.sgn t.swap), Blk b1 [l3.v], Ar Cf.ST l3 X, Blk b5 t.cells, Blk b2 [numV b1], Blk b (c.cs s)] (hK2 _ _ _ _ (by omega) ⟨j + 1, rfl, rfl, by omega, rfl, rfl⟩)
    refine xjoin (xif (fun hq1 => xget (h := xasrt (by rw [BA_size, hql]; omega) ?_)) (fun hq1 => ?_))
    · have e : BA (flgK t.wide t.sgn t.swap j) ++ q.2 = BA (flgK t.wide t.sgn t.swap (j + 1)) := by
        rw [hsucc, if_pos hq1, ← BA_app, BA_data]
      rw [e]; exact next
    · have e : flgK t.wide t.sgn t.swap j = flgK t.wide t.sgn t.swap (j + 1) := by
        rw [hsucc, if_neg (by simp [hq1])]; simp
      rw [e]; exact next
  · have hj3 : j = 3 := by omega
    subst hj3
    refine xjoin1 (fun (f2 : ByteArray) As' => f2 = BA (flagL t.wide t.sgn t.swap) ∧ As' = [Ar BT ⟨some ⟨b10, 0, none⟩, 3, 3⟩ (flg t.wide t.sgn t.swap), Blk b1 [l3.v], Ar Cf.ST l3 X, Blk b5 t.cells, Blk b2 [numV b1], Blk b (c.cs s)]) (fun K3 hK3 => ?_) ?_
    · have e := flgK_all t.wide t.sgn t.swap
      refine xif (fun h => hK3 _ _ ⟨?_, rfl⟩) (fun h => hK3 _ _ ⟨?_, rfl⟩)
      · have h : flgK t.wide t.sgn t.swap 3 = [] := by
          rw [BA_toList, empty_list] at h
          exact eq_of_beq h
        rw [if_pos h] at e
        rw [← e]; rfl
      · have h : ¬ flgK t.wide t.sgn t.swap 3 = [] := by
          rw [BA_toList, empty_list] at h
          intro e
          rw [e] at h
          cases h
        rw [if_neg h] at e
        rw [← e]
    rintro f2 As2 ⟨rfl, rfl⟩
    refine xget (h := xnew fun b12 => ?_)
    refine xapp1 (E := Cf.ST) (BA (flagL t.wide t.sgn t.swap)) (hb := by omega) (h := fun l4 => xset (h := ?_))
    refine xget (s := .val) (x := numV b1) (h := ?_)
    iterate 5 (refine xget (h := ?_))
    refine xnew fun b13 => ?_
    refine xfold1 (Q := Ar I64 ⟨some ⟨b13, 0, none⟩, 5, 5⟩ [t.mul, t.div, t.add, t.dead, t.quiet]) 0 (fun g hg => ⟨[], blk_ar [t.mul, t.div, t.add, t.dead, t.quiet] 5 rfl rfl hg⟩) ?_
    refine xnum (b := b1) (l := l4) (xs := X ++ [BA (flagL t.wide t.sgn t.swap)]) [t.mul, t.div, t.add, t.dead, t.quiet] (by simp; omega) (by
      intro m hm
      simp only [List.mem_cons, List.not_mem_nil, or_false] at hm
      omega) fun l5 => ?_
    refine xget (h := xget (h := ?_))
    refine xcl (bound_spec27 b1 b2 l5 (X ++ [BA (flagL t.wide t.sgn t.swap)] ++ [t.mul, t.div, t.add, t.dead, t.quiet].map numB) t.low t.ulow (by simp; omega) (by omega) (by omega)) rdb ?_
    rintro _ _ ⟨l6, rfl⟩
    refine app3 (xget (h := xget (h := ?_)))
    refine xcl (bound_spec27 b1 b2 l6 (X ++ [BA (flagL t.wide t.sgn t.swap)] ++ [t.mul, t.div, t.add, t.dead, t.quiet].map numB ++ [BA (boundL t.low t.ulow)]) t.high t.uhigh (by simp; omega) (by omega) (by omega)) rdb ?_
    rintro _ _ ⟨l7, rfl⟩
    refine app3 (xget (s := .val) (x := numV b1) (h := xget (h := xnew fun b14 => ?_)))
    refine xfold1 (Q := Ar I64 ⟨some ⟨b14, 0, none⟩, 1, 1⟩ [t.hyst]) 0 (fun g hg => ⟨[], blk_ar [t.hyst] 1 rfl rfl hg⟩) ?_
    refine xnum (b := b1) (l := l7) (xs := X ++ [BA (flagL t.wide t.sgn t.swap)] ++ [t.mul, t.div, t.add, t.dead, t.quiet].map numB ++ [BA (boundL t.low t.ulow)] ++ [BA (boundL t.high t.uhigh)]) [t.hyst] (by simp; omega) (by simp; omega) fun l8 => ?_
    refine xget (h := ?_)
    generalize hY : X ++ [BA (flagL t.wide t.sgn t.swap)] ++ [t.mul, t.div, t.add, t.dead, t.quiet].map numB ++ [BA (boundL t.low t.ulow)] ++ [BA (boundL t.high t.uhigh)] ++ [t.hyst].map numB = Y
    have hYl : Y.length = 15 := by rw [← hY]; simp [hXl]
    refine xuse [Blk b1 [l8.v], Ar Cf.ST l8 Y, Blk b5 t.cells, Blk b2 [numV b1], Blk b (c.cs s)] ?_
    refine xjoin0 (fun As' => ∃ l9 : Sl, As' = [Blk b1 [l9.v], Ar Cf.ST l9 ((tagW t).map BA), Blk b5 t.cells, Blk b2 [numV b1], Blk b (c.cs s)]) (fun K3 hK3 => ?_) ?_
    · have hw : Y ++ [BA (latchL t.latch)] = (tagW t).map BA := by
        rw [← hY, ← hX]
        simp [tagW, numB, BA]
      refine xif (fun h => xget (h := xnew fun b15 => ?_)) (fun h => xget (h := xnew fun b15 => ?_))
      · refine xapp1 (E := Cf.ST) (BA [108, 97, 116, 99, 104]) (hb := by omega) (h := fun l9 => xset (h := ?_))
        rw [h] at hw
        have hw1 : Y ++ [BA [108, 97, 116, 99, 104]] = (tagW t).map BA := hw
        rw [hw1]
        exact xuse [Blk b1 [l9.v], Ar Cf.ST l9 ((tagW t).map BA), Blk b5 t.cells, Blk b2 [numV b1], Blk b (c.cs s)] (hK3 _ ⟨l9, rfl⟩)
      · refine xapp1 (E := Cf.ST) (BA [45]) (hb := by omega) (h := fun l9 => xset (h := ?_))
        rw [h] at hw
        have hw1 : Y ++ [BA [45]] = (tagW t).map BA := hw
        rw [hw1]
        exact xuse [Blk b1 [l9.v], Ar Cf.ST l9 ((tagW t).map BA), Blk b5 t.cells, Blk b2 [numV b1], Blk b (c.cs s)] (hK3 _ ⟨l9, rfl⟩)
    rintro As2 ⟨l9, rfl⟩
    refine xget (h := ?_)
    refine xlen l9 (fun hl9 hc9 => ?_)
    have hjl : (Lib.join (tagW t) [32]).length + 1 = (lineL (tagW t)).length := by simp [lineL]
    refine xjoinS (ws := tagW t) rfl (by simp [tagW]) hc9 (by omega) ?_
    have e11 : BA (Lib.join (tagW t) [32]) ++ (⟨#[10]⟩ : ByteArray) = BA (lineL (tagW t)) := by
      rw [show (⟨#[10]⟩ : ByteArray) = BA [10] from rfl, BA_app]; rfl
    rw [e11]
    refine xasrt (by rw [BA_size, lit_size]; simp; omega) (xasrt (by rw [BA_size, BA_size]; omega) ?_)
    rw [BA_app, ← textK_succ ht, wrap_succ k (by omega)]
    exact xuse [Blk b1 [l9.v], Ar Cf.ST l9 ((tagW t).map BA), Blk b2 [numV b1], Blk b (c.cs s)] (hK _ _ _ _ (by omega) ⟨k + 1, l9, _, rfl, rfl, by omega, rfl, rfl⟩)

end Go.Cx
