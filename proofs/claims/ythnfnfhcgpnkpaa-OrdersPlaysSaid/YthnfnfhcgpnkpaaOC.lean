/-
  The journal: its calls.
-/
import Derived.Test.YthnfnfhcgpnkpaaOB
import Derived.Test.YthnfnfhcgpnkpaaCE
import Derived.Test.YthnfnfhcgpnkpaaDT
namespace Go.Cf
open Go
variable {B : Base} {As : List HP}
theorem xslcn {s : Sl} {l r m : Nat} {sz : Nat} {K : Sl → WP} (h1 : l ≤ r) (h2 : r ≤ m) (h3 : m ≤ s.c) (h : Ent B As (K (s.cut l r m sz))) : Ent B As (XSlc s (l : Int) (r : Int) (m : Int) sz K) := xslc (by omega) (by omega) (by omega) (by omega) h
end Go.Cf
namespace Go.Cx
open Go Go.Cf
set_option linter.unusedVariables false
variable {B : Base} {As : List HP}

abbrev jCells (d : Option Addr) (r : Option Nat) (s : Sl) (dead : Bool) : List Value := [.pointer d, .map r, s.v, .bool dead]
def JObj (d q : Option Addr) (J : JM) : HP := fun h => JInv J.L ∧ ∃ b r s, q = some ⟨b, 0, none⟩ ∧ star [Blk b (jCells d r s J.dead), MapO (.int .i64) r J.L, Ar I64 s (J.L.map (·.1))] h

theorem xjo (i : Nat) {d q : Option Addr} {dead : Bool} {L : JL} {F : List HP} [p : Pick i As (JObj d q ⟨dead, L⟩) F] {φ : WP}
    (k : JInv L → ∀ b r s, q = some ⟨b, 0, none⟩ → Ent B (Blk b (jCells d r s dead) :: MapO (.int .i64) r L :: Ar I64 s (L.map (·.1)) :: F) φ) : Ent B As φ := by
  refine Ent.perm p.perm ?_
  intro w hw
  obtain ⟨g, ⟨a, c, ⟨hi, b, r, s, hp, pa⟩, pc, d, sa, sc⟩, hm, hu⟩ := hw
  exact k hi b r s hp w ⟨g, (star_append [_, _, _] F).2 ⟨a, c, pa, pc, d, sa, sc⟩, hm, hu⟩

theorem xjo_back (d : Option Addr) (b : Nat) (r : Option Nat) (s : Sl) (dead : Bool) {L : JL} {G : List HP} [q : Split [Blk b (jCells d r s dead), MapO (.int .i64) r L, Ar I64 s (L.map (·.1))] As G] {φ : WP}
    (hi : JInv L) (k : Ent B (JObj d (some ⟨b, 0, none⟩) ⟨dead, L⟩ :: G) φ) : Ent B As φ :=
  xfold [Blk b (jCells d r s dead), MapO (.int .i64) r L, Ar I64 s (L.map (·.1))] (JObj d (some ⟨b, 0, none⟩) ⟨dead, L⟩) (fun g hg => ⟨hi, b, r, s, rfl, hg⟩) k

theorem jobj_some {d q : Option Addr} {J : JM} {g : Frag} (h : JObj d q J g) : ∃ b, q = some ⟨b, 0, none⟩ := by
  obtain ⟨_, b, _, _, h, _⟩ := h
  exact ⟨b, h⟩

theorem u8_is (y : UInt8) (n : Nat) (hn : n < 256) : ((y.toNat : Int) == (n : Int)) = decide (y = UInt8.ofNat n) := by
  rw [Bool.eq_iff_iff]
  simp only [beq_iff_eq, decide_eq_true_eq, Int.natCast_inj]
  constructor
  · intro h; apply UInt8.toNat_inj.1; rw [UInt8.toNat_ofNat']; omega
  · intro h; rw [h, UInt8.toNat_ofNat']; omega

theorem nat_is (m k : Nat) : (((m : Nat) : Int) == (k : Int)) = decide (m = k) := by
  rw [Bool.eq_iff_iff]
  simp only [beq_iff_eq, decide_eq_true_eq, Int.natCast_inj]
theorem cond1 (y : UInt8) {n m : Nat} (h : m = n) (o : Option Int) : (((((y.toNat : Nat) : Int) == 1) && (((n : Nat) : Int) == 9)) && (!o.isSome)) = decide (y = 1 ∧ m = 9 ∧ o = none) := by
  subst h
  rw [show (((y.toNat : Nat) : Int) == 1) = decide (y = 1) from u8_is y 1 (by decide), show (((m : Nat) : Int) == 9) = decide (m = 9) from nat_is m 9]
  cases o <;> simp
theorem cond2 (y : UInt8) {n m : Nat} (h : m = n) (o : Option Int) : ((((((y.toNat : Nat) : Int) == 2) && (((n : Nat) : Int) == 10)) && o.isSome) && decide (o.getD 0 < 0)) = decide (y = 2 ∧ m = 10 ∧ o.getD 0 < 0) := by
  subst h
  rw [show (((y.toNat : Nat) : Int) == 2) = decide (y = 2) from u8_is y 2 (by decide), show (((m : Nat) : Int) == 10) = decide (m = 10) from nat_is m 10]
  cases o <;> simp [Bool.and_assoc]
theorem okId_iff (x : Int) : (decide (x < 1) || decide (x > 1099511627776)) = !(okId x) := by
  unfold okId
  rw [Bool.eq_iff_iff]
  simp

def takePost (d q : Option Addr) (dead : Bool) (L : JL) (xs : List UInt8) : Tup [.bool] → List HP → Prop := fun t Bs =>
  (t.1 = true ∧ ∃ L', takeJ L xs = some L' ∧ Bs = [JObj d q ⟨dead, L'⟩]) ∨ (t.1 = false ∧ takeJ L xs = none ∧ Bs = [])

theorem take_spec (d q : Option Addr) (dead : Bool) (L : JL) (b : Sl) (xs : List UInt8) (hcap : b.n ≤ b.c) :
    Ct Pr F_orders_Journal_take [.pointer q, b.v] .one [.bool] [JObj d q ⟨dead, L⟩] (RAr U8 b xs) (takePost d q dead L xs) := by
  refine spec1 c_orders_Journal_take fun B hr => ?_
  have fb : Fro B b U8 xs := ⟨hr⟩
  have hb := hr.1
  unfold orders_Journal_take
  have no : takeJ L xs = none → ∀ {As : List HP}, Ent B As (Ret B (takePost d q dead L xs) (false, ())) := fun h _ => xkeep (l := []) (xret (.inr ⟨rfl, h, rfl⟩))
  refine xif_dec (fun h => no (by unfold takeJ; rw [if_pos (by omega)])) (fun h9 => ?_)
  refine xslcn (l := 1) (r := 9) (by omega) (by omega) (Nat.le_refl _) ?_
  have fc : Fro B (b.cut 1 9 b.c 1) U8 (cut8 xs 1) := ⟨hr.cut 1 9 b.c (by omega) (by omega) (by omega)⟩
  have hq := cut8_len (xs := xs) (a := 1) (by omega)
  have hsn := fc.rd.1
  refine xloop2 (fun (n : Nat) (v : Int) (i : Int) As => ∃ k : Nat, i = (k : Int) ∧ v = ((beV ((cut8 xs 1).take k) : Nat) : Int) ∧ n = 8 - k ∧ k ≤ 8 ∧ As = [JObj d q ⟨dead, L⟩]) 8 ⟨0, rfl, rfl, rfl, by omega, rfl⟩ ?_
  rintro n _ _ _ K ⟨k, rfl, rfl, rfl, hk, rfl⟩ hK
  refine xif_dec (fun h => ?_) (fun h => ?_)
  · have hk8 : k < 8 := by omega
    have hx := List.getElem?_eq_getElem (l := cut8 xs 1) (i := k) (by omega)
    refine xidxn (h1 := by omega) (h := fun _ _ => ?_)
    refine xgetE hx (h := xasrt (by decide) ?_)
    rw [or64 _ _ (beV_small hq hk8), wrap_succ k (by omega)]
    exact hK (8 - (k + 1)) _ _ _ (by omega) ⟨k + 1, rfl, by rw [beV_step hx], rfl, by omega, rfl⟩
  have hk8 : k = 8 := by omega
  subst hk8
  rw [List.take_of_length_le (by omega), show beV (cut8 xs 1) = idOf xs from rfl, okId_iff]
  refine xif (fun h => no ?_) (fun h => ?_)
  · unfold takeJ; rw [if_neg (by omega), if_pos h]
  have hok : okId (idOf xs) = true := by simpa using h
  have hok' : 1 ≤ ((idOf xs : Nat) : Int) ∧ ((idOf xs : Nat) : Int) ≤ 1099511627776 := by simpa [okId] using hok
  have hw : IntKind.i64.wrap ((idOf xs : Nat) : Int) = ((idOf xs : Nat) : Int) := wrap_id _ (by omega) (by omega)
  rw [hw]
  have hgo : takeJ L xs = if xs.getD 0 0 = 1 ∧ xs.length = 9 ∧ lookM L (idOf xs) = none ∧ L.length < 1024 then some (L ++ [((idOf xs : Int), -1)])
      else if xs.getD 0 0 = 2 ∧ xs.length = 10 ∧ (lookM L (idOf xs)).getD 0 < 0 then some (setM L (idOf xs) ((xs.getD 9 0).toNat : Int)) else none := by
    unfold takeJ; rw [if_neg (by omega), if_neg (by rw [hok]; simp)]
  generalize ((idOf xs : Nat) : Int) = id at *
  refine xjo 0 fun hi b0 r s hq0 => ?_
  subst hq0
  refine xnil (xget (h := ?_))
  refine xlook (.int .i64) ?_
  have x0 := List.getElem?_eq_getElem (l := xs) (i := 0) (by omega)
  have g0 := getD_of x0
  generalize xs[0] = y0 at x0 g0
  rw [g0] at hgo
  refine xidxn (k := 0) (h1 := by omega) (h := fun _ _ => ?_)
  refine xgetE x0 (h := ?_)
  refine xlen s fun hsl _ => ?_
  simp only [List.length_map] at hsl
  rw [cond1 y0 hb]
  refine xjoin (xif_dec (fun hA => ?_) (fun hA => ?_))
  · obtain ⟨rfl, hl9, hn⟩ := hA
    refine xnil (xget (h := ?_))
    refine xjoin (xif_dec (fun hlen => ?_) (fun hlen => ?_))
    · have hlen : L.length < 1024 := by omega
      rw [if_pos ⟨rfl, hl9, hn, hlen⟩] at hgo
      refine xnil (xget (h := ?_))
      refine xupd (.int .i64) (-1) (h := ?_)
      have hset : setM L id (-1) = L ++ [(id, -1)] := by
        rcases look_cases (Value.int .i64) id L 0 with ⟨_, _, h3⟩ | ⟨_, _, _, _, h3, _⟩
        · exact h3 _
        · rw [hn] at h3; cases h3
      rw [hset]
      refine xnil (xget (h := xnew fun b1 => ?_))
      refine xapp1 id (hb := by simp; omega) (h := fun s3 => ?_)
      refine xnil (xset (h := ?_))
      rw [show L.map (·.1) ++ [id] = (L ++ [(id, (-1 : Int))]).map (·.1) by simp]
      refine xjo_back d b0 r s3 dead (jinv_begin hi hn hok hlen) ?_
      exact xret (.inl ⟨rfl, _, hgo, rfl⟩)
    · refine xidxn (k := 0) (h1 := by omega) (h := fun _ _ => ?_)
      refine xgetE x0 (h := xiff rfl (no ?_))
      rw [hgo, if_neg (fun h => hlen (by have := h.2.2.2; omega)), if_neg (fun h => absurd h.1 (by decide))]
  · rw [if_neg (fun h => hA ⟨h.1, h.2.1, h.2.2.1⟩)] at hgo
    refine xjoin (xiff rfl ?_)
    refine xidxn (k := 0) (h1 := by omega) (h := fun _ _ => ?_)
    refine xgetE x0 (h := ?_)
    rw [cond2 y0 hb]
    refine xif_dec (fun hB => ?_) (fun hB => no (by rw [hgo, if_neg hB]))
    rw [if_pos hB] at hgo
    obtain ⟨rfl, hl10, hneg⟩ := hB
    have x9 := List.getElem?_eq_getElem (l := xs) (i := 9) (by omega)
    rw [getD_of x9] at hgo
    have hy9 := (xs[9]'(by omega)).toNat_lt
    generalize xs[9] = y9 at *
    refine xdraw (xnil (xget (h := ?_)))
    refine xidxn (k := 9) (h1 := by omega) (h := fun _ _ => ?_)
    refine xgetE x9 (h := ?_)
    rw [wrap_id ((y9.toNat : Nat) : Int) (by omega) (by omega)]
    refine xupd (.int .i64) ((y9.toNat : Nat) : Int) (h := ?_)
    obtain ⟨v, hv⟩ : ∃ v, lookM L id = some v := by
      cases hl : lookM L id with
      | none => rw [hl] at hneg; exact absurd hneg (by decide)
      | some v => exact ⟨v, rfl⟩
    rw [← setM_keys (x := ((y9.toNat : Nat) : Int)) hv]
    refine xjo_back d b0 r s dead (jinv_end (code := ((y9.toNat : Nat) : Int)) hi hv ⟨by omega, by omega⟩) ?_
    exact xret (.inl ⟨rfl, _, hgo, rfl⟩)

theorem entry_raw (kind : UInt8) (id : Int) (hid : okId id = true) (rest : Sl) (ys : List UInt8) (hy : ys.length ≤ 10) : Ct Pr F_orders_entry [.int .u8 (kind.toNat : Int), .int .i64 id, rest.v] .one [.slice] [] (RAr U8 rest ys)
    (fun t Bs => Bs = [Ar U8 t.1 ([kind] ++ be8 id.toNat ++ ys)]) := by
  refine spec1 c_orders_entry fun B hr => ?_
  have fb : Fro B rest U8 ys := ⟨hr⟩
  have hid' : 1 ≤ id ∧ id ≤ 1099511627776 := by simpa [okId] using hid
  unfold orders_entry
  refine xnew fun b => ?_
  refine xfold1 (Q := Ar U8 ⟨some ⟨b, 0, none⟩, 1, 1⟩ [kind]) 0 (fun g hg => ⟨[], blk_ar [kind] 1 rfl rfl hg⟩) ?_
  refine xloop2 (fun n s i As => ∃ k : Nat, i = 56 - 8 * (k : Int) ∧ n = 8 - k ∧ k ≤ 8 ∧ As = [Ar U8 s ([kind] ++ (be8 id.toNat).take k)]) 8 ⟨0, rfl, rfl, by omega, rfl⟩ ?_
  rintro n s _ _ K ⟨k, rfl, rfl, hk, rfl⟩ hK
  have hbl := be8_len id.toNat
  refine xif_dec (fun h => ?_) (fun h => ?_)
  · have hk8 : k < 8 := by omega
    refine xasrt h (xnew fun b2 => ?_)
    have e1 : (2 : Int) ^ (min (Int.toNat (56 - 8 * (k : Int))) 64) = ((256 ^ (7 - k) : Nat) : Int) := by
      have : ∀ k : Nat, k < 8 → (2 : Int) ^ (min (Int.toNat (56 - 8 * (k : Int))) 64) = ((256 ^ (7 - k) : Nat) : Int) := by decide
      exact this k hk8
    have e2 : id = ((id.toNat : Nat) : Int) := by omega
    have e3 : Int.fdiv id (2 ^ (min (Int.toNat (56 - 8 * (k : Int))) 64)) = ((id.toNat / 256 ^ (7 - k) : Nat) : Int) := by
      rw [e1]
      conv => lhs; rw [e2]
      exact shr_eq _ _ _ rfl
    rw [e3, byte_of]
    refine xapp1 (UInt8.ofNat (id.toNat / 256 ^ (7 - k))) (hb := by simp; omega) (h := fun s' => ?_)
    rw [show IntKind.i64.wrap (56 - 8 * (k : Int) - 8) = 56 - 8 * ((k + 1 : Nat) : Int) by rw [wrap_id _ (by omega) (by omega)]; omega]
    refine hK (8 - (k + 1)) _ _ _ (by omega) ⟨k + 1, rfl, rfl, by omega, ?_⟩
    rw [List.take_add_one, be8_get _ hk8, List.append_assoc]; rfl
  · have hk8 : k = 8 := by omega
    subst hk8
    rw [List.take_of_length_le (by omega)]
    refine xapp (y := rest) (hb := by simp [hbl]; omega) (h := fun s1 => ?_)
    exact xret rfl

theorem lay_spec (d q : Option Addr) (m : DM) (L : JL) (p : Sl) (xs : List UInt8) (hm : xs.length ≤ 1024) : Ct Pr F_orders_Journal_lay [.pointer q, p.v] .one [.int .i64] [JObj d q ⟨false, L⟩, DevObj d m] (RAr U8 p xs)
    (fun t Bs => t.1 = (layJ m xs).2 ∧ Bs = [JObj d q ⟨decide ((layJ m xs).2 = 10), L⟩, DevObj d (layJ m xs).1]) := by
  refine spec1 c_orders_Journal_lay fun B hr => ?_
  have fb : Fro B p U8 xs := ⟨hr⟩
  unfold orders_Journal_lay
  refine xcl (chunkPut_spec p xs hm) rdb ?_
  rintro ⟨s, r, _⟩ _ ⟨_, rfl⟩
  refine app1 (ca2 ?_)
  refine xjo 1 fun hi b0 rm sb hq => ?_
  subst hq
  refine xnil (xget (h := ?_))
  refine xcl (Append_spec d m cmdN s (frameN xs)) rdb ?_
  rintro ⟨r1, _⟩ _ ⟨h1, rfl⟩
  simp only at h1
  subst h1
  refine app1 (ca1 ?_)
  refine xjoin1 (fun e As' => e = (layJ m xs).2 ∧ As' = [DevObj d (layJ m xs).1, Blk b0 (jCells d rm sb false), MapO (.int .i64) rm L, Ar I64 sb (L.map (·.1))]) ?_ ?_
  · intro J hJ
    refine xif (fun h => ?_) (fun h => ?_)
    · have h : (appendM m cmdN (frameN xs)).2 = 0 := by simpa using h
      have e : layJ m xs = syncM (appendM m cmdN (frameN xs)).1 cmdN := by unfold layJ; rw [if_pos h]
      refine xnil (xget (h := ?_))
      refine xcl (Sync_spec d (appendM m cmdN (frameN xs)).1 cmdN) rdb ?_
      rintro ⟨r2, _⟩ _ ⟨h2, rfl⟩
      simp only at h2
      subst h2
      refine app1 (ca1 ?_)
      rw [← e]
      exact xuse [DevObj d (layJ m xs).1, Blk b0 (jCells d rm sb false), MapO (.int .i64) rm L, Ar I64 sb (L.map (·.1))] (hJ _ _ ⟨rfl, rfl⟩)
    · have h : ¬ (appendM m cmdN (frameN xs)).2 = 0 := by simpa using h
      have e : layJ m xs = appendM m cmdN (frameN xs) := by unfold layJ; rw [if_neg h]
      rw [← e]
      exact xuse [DevObj d (layJ m xs).1, Blk b0 (jCells d rm sb false), MapO (.int .i64) rm L, Ar I64 sb (L.map (·.1))] (hJ _ _ ⟨rfl, rfl⟩)
  · rintro _ _ ⟨rfl, rfl⟩
    refine xjoin (xif (fun h => ?_) (fun h => ?_))
    · have h : (layJ m xs).2 = 10 := by simpa using h
      refine xnil (xset (h := ?_))
      refine xjo_back d b0 rm sb true hi (xret ⟨rfl, ?_⟩)
      rw [h]; rfl
    · have h : ¬ (layJ m xs).2 = 10 := by simpa using h
      refine xjo_back d b0 rm sb false hi (xret ⟨rfl, ?_⟩)
      rw [decide_eq_false h]

def jmOf (o : DM × JM × Int) : JM := o.2.1

theorem Begin_spec (d q : Option Addr) (m : DM) (J : JM) (id : Int) : Ct Pr F_orders_Journal_Begin [.pointer q, .int .i64 id] .one [.int .i64] [JObj d q J, DevObj d m] emp
    (fun t Bs => t.1 = (beginJ m J id).2.2 ∧ Bs = [JObj d q (beginJ m J id).2.1, DevObj d (beginJ m J id).1]) := by
  refine spec1 c_orders_Journal_Begin fun B _ => ?_
  unfold orders_Journal_Begin
  obtain ⟨dead, L⟩ := J
  refine xjo 0 fun hi b0 r s hq => ?_
  subst hq
  refine xnil (xget (h := ?_))
  refine xlook (.int .i64) ?_
  refine xnil (xget (h := ?_))
  refine xlen s fun hsl _ => ?_
  simp only [List.length_map] at hsl
  refine xif (fun hd => ?_) (fun hd => ?_)
  · have hd : dead = true := hd
    have e : beginJ m ⟨dead, L⟩ id = (m, ⟨dead, L⟩, 10) := by unfold beginJ; rw [if_pos hd]
    rw [e]
    exact xjo_back d b0 r s dead hi (xret ⟨rfl, rfl⟩)
  have hd : dead = false := by simpa using hd
  subst hd
  rw [okId_iff]
  refine xif (fun ho => ?_) (fun ho => ?_)
  · have e : beginJ m ⟨false, L⟩ id = (m, ⟨false, L⟩, 3) := by unfold beginJ; rw [if_neg (by simp), if_pos ho]
    rw [e]
    exact xjo_back d b0 r s false hi (xret ⟨rfl, rfl⟩)
  have ho' : okId id = true := by simpa using ho
  refine xif (fun hk => ?_) (fun hk => ?_)
  · have e : beginJ m ⟨false, L⟩ id = (m, ⟨false, L⟩, 7) := by unfold beginJ; rw [if_neg (by simp), if_neg (by simpa using ho), if_pos hk]
    rw [e]
    exact xjo_back d b0 r s false hi (xret ⟨rfl, rfl⟩)
  have hn : lookM L id = none := by simpa using hk
  refine xnil (xget (h := ?_))
  refine xif_dec (fun hl => ?_) (fun hl => ?_)
  · have e : beginJ m ⟨false, L⟩ id = (m, ⟨false, L⟩, 34) := by unfold beginJ; rw [if_neg (by simp), if_neg (by simpa using ho), if_neg (by simpa using hk), if_pos (by simp only; omega)]
    rw [e]
    exact xjo_back d b0 r s false hi (xret ⟨rfl, rfl⟩)
  have hl : L.length < 1024 := by omega
  have e : beginJ m ⟨false, L⟩ id = laidJ m ⟨false, L⟩ (rowJ id (-1)) (L ++ [(id, -1)]) := by unfold beginJ; rw [if_neg (by simp), if_neg (by simpa using ho), if_neg (by simpa using hk), if_neg (by simp only; omega)]
  rw [e]
  refine xnone U8 ?_
  refine xcl (entry_raw 1 id ho' ⟨none, 0, 0⟩ [] (by decide)) rdb ?_
  rintro ⟨s1, _⟩ _ rfl
  refine app1 (ca1 ?_)
  rw [show [(1 : UInt8)] ++ be8 id.toNat ++ [] = rowJ id (-1) from rfl]
  refine xjo_back d b0 r s false hi ?_
  refine xcl (lay_spec d (some ⟨b0, 0, none⟩) m L s1 (rowJ id (-1)) (by rw [rowJ_len]; decide)) rdb ?_
  rintro ⟨r1, _⟩ _ ⟨h1, rfl⟩
  simp only at h1
  subst h1
  refine app2 (ca1 ?_)
  refine xif (fun h => ?_) (fun h => ?_)
  · have h : ¬ (layJ m (rowJ id (-1))).2 = 0 := by simpa using h
    unfold laidJ
    rw [if_neg h]
    exact xuse [JObj d (some ⟨b0, 0, none⟩) ⟨decide ((layJ m (rowJ id (-1))).2 = 10), L⟩, DevObj d (layJ m (rowJ id (-1))).1] (xret ⟨rfl, rfl⟩)
  · have h : (layJ m (rowJ id (-1))).2 = 0 := by simpa using h
    unfold laidJ
    rw [if_pos h, h]
    refine xjo 0 fun hi b1 r s hq => ?_
    cases hq
    refine xnil (xget (h := ?_))
    refine xupd (.int .i64) (-1) (h := ?_)
    have hset : setM L id (-1) = L ++ [(id, -1)] := by
      rcases look_cases (Value.int .i64) id L 0 with ⟨_, _, h3⟩ | ⟨_, _, _, _, h3, _⟩
      · exact h3 _
      · rw [hn] at h3; cases h3
    rw [hset]
    refine xnil (xget (h := xnew fun b2 => ?_))
    refine xapp1 id (hb := by simp; omega) (h := fun s3 => ?_)
    refine xnil (xset (h := ?_))
    rw [show L.map (·.1) ++ [id] = (L ++ [(id, (-1 : Int))]).map (·.1) by simp]
    refine xjo_back d b0 r s3 (decide ((0 : Int) = 10)) (jinv_begin hi hn ho' hl) ?_
    exact xuse [JObj d (some ⟨b0, 0, none⟩) ⟨decide ((0 : Int) = 10), L ++ [(id, -1)]⟩, DevObj d (layJ m (rowJ id (-1))).1] (xret ⟨rfl, rfl⟩)

theorem End_spec (d q : Option Addr) (m : DM) (J : JM) (id code : Int) : Ct Pr F_orders_Journal_End [.pointer q, .int .i64 id, .int .i64 code] .one [.int .i64] [JObj d q J, DevObj d m] emp
    (fun t Bs => t.1 = (endJ m J id code).2.2 ∧ Bs = [JObj d q (endJ m J id code).2.1, DevObj d (endJ m J id code).1]) := by
  refine spec1 c_orders_Journal_End fun B _ => ?_
  unfold orders_Journal_End
  obtain ⟨dead, L⟩ := J
  refine xjo 0 fun hi b0 r s hq => ?_
  subst hq
  refine xnil (xget (h := ?_))
  refine xlook (.int .i64) ?_
  refine xnil (xget (h := ?_))
  refine xif (fun hd => ?_) (fun hd => ?_)
  · have hd : dead = true := hd
    have e : endJ m ⟨dead, L⟩ id code = (m, ⟨dead, L⟩, 10) := by unfold endJ; rw [if_pos hd]
    rw [e]
    exact xjo_back d b0 r s dead hi (xret ⟨rfl, rfl⟩)
  have hd : dead = false := by simpa using hd
  subst hd
  refine xif (fun ho => ?_) (fun ho => ?_)
  · have e : endJ m ⟨false, L⟩ id code = (m, ⟨false, L⟩, 3) := by unfold endJ; rw [if_neg (by simp), if_pos (by simpa using ho)]
    rw [e]
    exact xjo_back d b0 r s false hi (xret ⟨rfl, rfl⟩)
  have ho : ¬ (code < 0 ∨ code > 255) := by simpa using ho
  refine xif (fun hk => ?_) (fun hk => ?_)
  · have hn : lookM L id = none := by simpa using hk
    have e : endJ m ⟨false, L⟩ id code = (m, ⟨false, L⟩, 6) := by unfold endJ; rw [if_neg (by simp), if_neg ho]; simp only [hn]
    rw [e]
    exact xjo_back d b0 r s false hi (xret ⟨rfl, rfl⟩)
  obtain ⟨c, hc⟩ : ∃ c, lookM L id = some c := Option.isSome_iff_exists.1 (by simpa using hk)
  have hid : okId id = true := hi.ids _ (lookM_mem hc)
  rw [hc]
  refine xif_dec (fun hl => ?_) (fun hl => ?_)
  · have hl : c ≥ 0 := hl
    have e : endJ m ⟨false, L⟩ id code = (m, ⟨false, L⟩, 7) := by unfold endJ; rw [if_neg (by simp), if_neg ho]; simp only [hc]; rw [if_pos hl]
    rw [e]
    exact xjo_back d b0 r s false hi (xret ⟨rfl, rfl⟩)
  have hl : ¬ c ≥ 0 := hl
  have e : endJ m ⟨false, L⟩ id code = laidJ m ⟨false, L⟩ (rowJ id code) (setM L id code) := by unfold endJ; rw [if_neg (by simp), if_neg ho]; simp only [hc]; rw [if_neg hl]
  rw [e]
  have ec : IntKind.u8.wrap code = ((UInt8.ofNat code.toNat).toNat : Int) := by
    have := byte_of code.toNat
    rwa [show ((code.toNat : Nat) : Int) = code by omega] at this
  rw [ec]
  refine xnew fun b => ?_
  refine xfold1 (Q := Ar U8 ⟨some ⟨b, 0, none⟩, 1, 1⟩ [UInt8.ofNat code.toNat]) 0 (fun g hg => ⟨[], blk_ar [UInt8.ofNat code.toNat] 1 rfl rfl hg⟩) ?_
  refine xcl (entry_raw 2 id hid ⟨some ⟨b, 0, none⟩, 1, 1⟩ [UInt8.ofNat code.toNat] (by simp)) rdb ?_
  rintro ⟨s1, _⟩ _ rfl
  refine app1 (ca1 ?_)
  have er : [(2 : UInt8)] ++ be8 id.toNat ++ [UInt8.ofNat code.toNat] = rowJ id code := by unfold rowJ; rw [if_neg (by omega), if_neg (by omega)]
  rw [er]
  refine xjo_back d b0 r s false hi ?_
  refine xcl (lay_spec d (some ⟨b0, 0, none⟩) m L s1 (rowJ id code) (by rw [rowJ_len]; split <;> decide)) rdb ?_
  rintro ⟨r1, _⟩ _ ⟨h1, rfl⟩
  simp only at h1
  subst h1
  refine app2 (ca1 ?_)
  refine xif (fun h => ?_) (fun h => ?_)
  · have h : ¬ (layJ m (rowJ id code)).2 = 0 := by simpa using h
    unfold laidJ
    rw [if_neg h]
    exact xuse [JObj d (some ⟨b0, 0, none⟩) ⟨decide ((layJ m (rowJ id code)).2 = 10), L⟩, DevObj d (layJ m (rowJ id code)).1] (xret ⟨rfl, rfl⟩)
  · have h : (layJ m (rowJ id code)).2 = 0 := by simpa using h
    unfold laidJ
    rw [if_pos h, h]
    refine xjo 0 fun hi b1 r s hq => ?_
    cases hq
    refine xnil (xget (h := ?_))
    refine xupd (.int .i64) code (h := ?_)
    rw [← setM_keys (x := code) hc]
    refine xjo_back d b0 r s (decide ((0 : Int) = 10)) (jinv_end (code := code) hi hc ⟨by omega, by omega⟩) ?_
    exact xuse [JObj d (some ⟨b0, 0, none⟩) ⟨decide ((0 : Int) = 10), setM L id code⟩, DevObj d (layJ m (rowJ id code)).1] (xret ⟨rfl, rfl⟩)

theorem State_spec (d q : Option Addr) (J : JM) (id : Int) : Ct Pr F_orders_Journal_State [.pointer q, .int .i64 id] (.tup [none, none]) [.int .i64, .int .i64] [JObj d q J] emp
    (fun t Bs => t.1 = (stateJ J.L id).1 ∧ t.2.1 = (stateJ J.L id).2 ∧ Bs = [JObj d q J]) := by
  refine spec2 c_orders_Journal_State fun B _ => ?_
  unfold orders_Journal_State
  obtain ⟨dead, L⟩ := J
  refine xjo 0 fun hi b0 r s hq => ?_
  subst hq
  refine xnil (xget (h := ?_))
  refine xlook (.int .i64) ?_
  unfold stateJ
  cases hl : lookM L id with
  | none => exact xift rfl (xjo_back d b0 r s dead hi (xret ⟨rfl, rfl, rfl⟩))
  | some c =>
    refine xiff rfl (xif_dec (fun h => ?_) (fun h => ?_))
    · have h : c < 0 := h
      simp only [h, if_true]
      exact xjo_back d b0 r s dead hi (xret ⟨rfl, rfl, rfl⟩)
    · have h : ¬ c < 0 := h
      simp only [h, if_false]
      exact xjo_back d b0 r s dead hi (xret ⟨rfl, rfl, rfl⟩)

theorem Left_spec (d q : Option Addr) (J : JM) : Ct Pr F_orders_Journal_Left [.pointer q] .one [.slice] [JObj d q J] emp
    (fun t Bs => Bs = [JObj d q J, Ar I64 t.1 (leftJ J.L)]) := by
  refine spec1 c_orders_Journal_Left fun B _ => ?_
  unfold orders_Journal_Left
  obtain ⟨dead, L⟩ := J
  refine xjo 0 fun hi b0 r s hq => ?_
  subst hq
  have hll := hi.len
  refine xnil (xget (h := ?_))
  refine xlen s fun hsl _ => ?_
  simp only [List.length_map] at hsl
  refine xnone I64 ?_
  refine xloop2 (fun n l i As => ∃ k : Nat, i = (k : Int) ∧ n = L.length - k ∧ k ≤ L.length ∧ As = [Ar I64 l (((L.map (·.1)).take k).filter fun id => decide ((lookM L id).getD 0 < 0)), Blk b0 (jCells d r s dead), MapO (.int .i64) r L, Ar I64 s (L.map (·.1))]) L.length ⟨0, rfl, rfl, by omega, rfl⟩ ?_
  rintro n l _ _ K ⟨k, rfl, rfl, hk, rfl⟩ hK
  refine xif_dec (fun h => ?_) (fun h => ?_)
  · have hx := List.getElem?_eq_getElem (l := L.map (·.1)) (i := k) (by simp; omega)
    have htk : (L.map (·.1)).take (k + 1) = (L.map (·.1)).take k ++ [(L.map (·.1))[k]'(by simp; omega)] := by rw [List.take_add_one, hx]; rfl
    generalize (L.map (·.1))[k]'(by simp; omega) = id at hx htk
    have hfl : (((L.map (·.1)).take k).filter fun id => decide ((lookM L id).getD 0 < 0)).length ≤ k := by
      have := List.length_filter_le (fun id => decide ((lookM L id).getD 0 < 0)) ((L.map (·.1)).take k)
      simp at this ⊢; omega
    refine xidxn (h1 := by simp; omega) (h := fun _ _ => ?_)
    refine xgetE hx (h := ?_)
    refine xnil (xget (h := ?_))
    refine xlook1 (.int .i64) ?_
    refine xjoin (xif_dec (fun hneg => ?_) (fun hneg => ?_))
    · refine xnew fun b => ?_
      refine xapp1 id (hb := by omega) (h := fun s1 => ?_)
      rw [wrap_succ k (by omega)]
      refine hK (L.length - (k + 1)) _ _ _ (by omega) ⟨k + 1, rfl, rfl, by omega, ?_⟩
      rw [htk, List.filter_append, List.filter_cons_of_pos (by simpa using hneg)]; rfl
    · rw [wrap_succ k (by omega)]
      refine hK (L.length - (k + 1)) _ _ _ (by omega) ⟨k + 1, rfl, rfl, by omega, ?_⟩
      rw [htk, List.filter_append, List.filter_cons_of_neg (by simpa using hneg)]; simp
  · have hkl : k = L.length := by omega
    rw [List.take_of_length_le (by simp; omega), ← left_eq hi.nodup]
    exact xjo_back d b0 r s dead hi (xret rfl)

end Go.Cx
