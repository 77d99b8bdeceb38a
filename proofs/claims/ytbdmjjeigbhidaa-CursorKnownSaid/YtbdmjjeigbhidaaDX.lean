/-
  DeviceKnown.
-/
import Derived.Test.YtbdmjjeigbhidaaDV
import Derived.Test.YtbdmjjeigbhidaaDM
namespace Go.Cx
open Go Go.Cf
set_option linter.unusedVariables false
variable {B : Base} {As : List HP}

/-- Calls of one's own. -/
def OpO (o : COp) (m : DOp) : HP := fun h => o.1 = m.kind ∧ o.2.1 = m.name ∧ o.2.2.1 = m.to ∧ o.2.2.2.2 = m.n ∧ i64 m.kind ∧ i64 m.n ∧ Ar U8 o.2.2.2.1 m.data h
def OOps (s : Sl) (ops : List DOp) : HP := fun h => ∃ os : List COp, star [Ar OP s os, Each OpO os ops] h

theorem OOps.read {s : Sl} {ops : List DOp} {h : Frag} (ho : OOps s ops h) : ROps s ops h := by
  obtain ⟨os, a, b, ⟨zs, pa⟩, ⟨c, d, pc, _, _, sc, _⟩, _, sa, sb⟩ := ho
  refine ⟨pa.cap, os, pa.read.mono sa, pc.length, fun i o m h1 h2 => ?_⟩
  exact (each_read (S := fun o m h => OpOk o m h) (fun _ _ _ _ h s => h.mono s) (fun _ _ _ h => ⟨h.1, h.2.1, h.2.2.1, h.2.2.2.1, h.2.2.2.2.1, h.2.2.2.2.2.1, h.2.2.2.2.2.2.read⟩) pc h1 h2).mono (sc.trans sb)

instance Rdb.oops (s : Sl) (ops : List DOp) (F G : List HP) [f : Find (OOps s ops) F G] : Rdb B F (ROps s ops) := ⟨fun g _ hF hs hm => by
  obtain ⟨a, b, pa, pb, _, sa, sb⟩ := star_perm f.perm hs
  exact pa.read.mono (sa.trans hm)⟩

theorem ar_none {α : Type} (E : Enc α) (g : Frag) : Ar E ⟨none, 0, 0⟩ [] g := ⟨[], rfl, rfl, .inl ⟨rfl, rfl⟩⟩

theorem opo_nil {k n : Int} {nm to : ByteArray} (hk : i64 k) (hn : i64 n) (g : Frag) : OpO (k, nm, to, ⟨none, 0, 0⟩, n) ⟨k, nm, to, [], n⟩ g := ⟨rfl, rfl, rfl, rfl, hk, hn, ar_none U8 g⟩
theorem opo_data {k n : Int} {nm to : ByteArray} {s : Sl} {d : List UInt8} (hk : i64 k) (hn : i64 n) (g : Frag) (h : Ar U8 s d g) : OpO (k, nm, to, s, n) ⟨k, nm, to, d, n⟩ g := ⟨rfl, rfl, rfl, rfl, hk, hn, h⟩

def i64d (x : Int) : Bool := decide (-9223372036854775808 ≤ x) && decide (x ≤ 9223372036854775807)
theorem i64_of {x : Int} (h : i64d x = true) : i64 x := by simpa [i64d, i64] using h

theorem xoops (i : Nat) {s : Sl} {ops : List DOp} {F : List HP} [p : Pick i As (OOps s ops) F] {φ : WP} (k : ∀ os : List COp, os.length = ops.length → Ent B (Ar OP s os :: Each OpO os ops :: F) φ) : Ent B As φ := by
  refine Ent.perm p.perm ?_
  intro w hw
  obtain ⟨g, ⟨a, c, ⟨rs, pa⟩, pc, d, sa, sc⟩, hm, hu⟩ := hw
  have hl : rs.length = ops.length := by
    obtain ⟨_, _, _, ⟨_, _, pe, _⟩, _⟩ := pa
    exact pe.length
  exact k rs hl w ⟨g, (star_append [_, _] F).2 ⟨a, c, pa, pc, d, sa, sc⟩, hm, hu⟩

abbrev N_ : Sl := ⟨none, 0, 0⟩
abbrev E_ : ByteArray := ByteArray.empty
abbrev nA : ByteArray := ⟨#[97]⟩
abbrev nB : ByteArray := ⟨#[98]⟩
abbrev nC : ByteArray := ⟨#[99]⟩
abbrev nX : ByteArray := ⟨#[120]⟩
abbrev nT : ByteArray := ⟨#[116]⟩
abbrev n16 : ByteArray := ⟨#[97, 97, 97, 97, 98, 98, 98, 98, 99, 99, 99, 99, 100, 100, 100, 100]⟩
def names7 : List ByteArray := [E_, nA, nB, n16, n16 ++ ⟨#[101]⟩, ⟨#[0]⟩, ⟨#[255]⟩]
def endsD : List Int := [-9223372036854775808, -1, 0, 1, 2, 3, 10, 14, 30, 16777216, 16777217, 9223372036854775807]
theorem ends_i64 : ∀ x ∈ endsD, i64 x := fun x hx => i64_of (by revert x; decide)

def ops4 (t : ByteArray) (v : UInt8) : List DOp := [⟨0, t, E_, [1, 2, v], 0⟩, ⟨1, t, E_, [], 0⟩, ⟨0, t, E_, [], 0⟩, ⟨0, t, nA, [9], 0⟩]
def cs4 (t : ByteArray) (s1 s2 : Sl) : List COp := [(0, t, E_, s1, 0), (1, t, E_, N_, 0), (0, t, E_, N_, 0), (0, t, nA, s2, 0)]
theorem each4 {t : ByteArray} {v : UInt8} {s1 s2 : Sl} {g : Frag} (h : star [Ar U8 s1 [1, 2, v], Ar U8 s2 [9]] g) : Each OpO (cs4 t s1 s2) (ops4 t v) g := by
  have z : ∀ x : Int, i64d x = true → i64 x := fun x h => i64_of h
  refine each_take (fun g h => opo_data (z _ rfl) (z _ rfl) g h) ?_ h
  refine fun g => each_skip (fun g => opo_nil (z _ rfl) (z _ rfl) g) ?_
  refine fun g => each_skip (fun g => opo_nil (z _ rfl) (z _ rfl) g) ?_
  refine fun g => each_take (fun g h => opo_data (z _ rfl) (z _ rfl) g h) ?_
  exact fun _ _ => trivial

def ops2 (n : Int) : List DOp := [⟨2, nB, E_, [], n⟩, ⟨2, nC, E_, [], n⟩]
def cs2 (n : Int) : List COp := [(2, nB, E_, N_, n), (2, nC, E_, N_, n)]
theorem each2 {n : Int} (hn : i64 n) (g : Frag) : Each OpO (cs2 n) (ops2 n) g := by
  have z : ∀ x : Int, i64d x = true → i64 x := fun x h => i64_of h
  refine each_skip (Ps := []) (fun g => opo_nil (z _ rfl) hn g) ?_ trivial
  refine fun g => each_skip (fun g => opo_nil (z _ rfl) hn g) ?_
  exact fun _ _ => trivial

def ops3 (t u : ByteArray) : List DOp := [⟨3, nA, t, [], 0⟩, ⟨3, t, nA, [], 0⟩, ⟨4, u, E_, [], 0⟩]
def cs3 (t u : ByteArray) : List COp := [(3, nA, t, N_, 0), (3, t, nA, N_, 0), (4, u, E_, N_, 0)]
theorem each3 {t u : ByteArray} (g : Frag) : Each OpO (cs3 t u) (ops3 t u) g := by
  have z : ∀ x : Int, i64d x = true → i64 x := fun x h => i64_of h
  refine each_skip (Ps := []) (fun g => opo_nil (z _ rfl) (z _ rfl) g) ?_ trivial
  refine fun g => each_skip (fun g => opo_nil (z _ rfl) (z _ rfl) g) ?_
  refine fun g => each_skip (fun g => opo_nil (z _ rfl) (z _ rfl) g) ?_
  exact fun _ _ => trivial

def ops14 (n : Int) : List DOp := [⟨0, nB, E_, [1, 2], 0⟩, ⟨1, nB, E_, [], 0⟩, ⟨0, nB, E_, [3, 4], 0⟩, ⟨5, E_, E_, [], n⟩, ⟨1, nX, E_, [], 0⟩, ⟨0, nC, E_, [], 0⟩, ⟨1, nC, E_, [], 0⟩, ⟨1, nC, E_, [], 0⟩, ⟨3, nC, E_, [], 0⟩, ⟨4, nC, E_, [], 0⟩, ⟨2, nB, E_, [], 9⟩, ⟨6, E_, E_, [], n⟩, ⟨6, E_, E_, [], 1⟩, ⟨4, nB, E_, [], 0⟩]
def cs14 (n : Int) (s1 s2 : Sl) : List COp := [(0, nB, E_, s1, 0), (1, nB, E_, N_, 0), (0, nB, E_, s2, 0), (5, E_, E_, N_, n), (1, nX, E_, N_, 0), (0, nC, E_, N_, 0), (1, nC, E_, N_, 0), (1, nC, E_, N_, 0), (3, nC, E_, N_, 0), (4, nC, E_, N_, 0), (2, nB, E_, N_, 9), (6, E_, E_, N_, n), (6, E_, E_, N_, 1), (4, nB, E_, N_, 0)]
theorem each14 {n : Int} (hn : i64 n) {s1 s2 : Sl} {g : Frag} (h : star [Ar U8 s1 [1, 2], Ar U8 s2 [3, 4]] g) : Each OpO (cs14 n s1 s2) (ops14 n) g := by
  have z : ∀ x : Int, i64d x = true → i64 x := fun x h => i64_of h
  refine each_take (fun g h => opo_data (z _ rfl) (z _ rfl) g h) ?_ h
  refine fun g => each_skip (fun g => opo_nil (z _ rfl) (z _ rfl) g) ?_
  refine fun g => each_take (fun g h => opo_data (z _ rfl) (z _ rfl) g h) ?_
  refine fun g => each_skip (fun g => opo_nil (z _ rfl) hn g) ?_
  iterate 7 (refine fun g => each_skip (fun g => opo_nil (z _ rfl) (z _ rfl) g) ?_)
  refine fun g => each_skip (fun g => opo_nil (z _ rfl) hn g) ?_
  iterate 2 (refine fun g => each_skip (fun g => opo_nil (z _ rfl) (z _ rfl) g) ?_)
  exact fun _ _ => trivial

def ops8 : List DOp := [⟨0, nT, E_, [1, 2], 0⟩, ⟨1, nT, E_, [], 0⟩, ⟨0, nT, E_, [3, 4], 0⟩, ⟨2, nT, E_, [], 3⟩, ⟨6, E_, E_, [], 0⟩, ⟨2, nT, E_, [], 1⟩, ⟨0, nT, E_, [5], 0⟩, ⟨6, E_, E_, [], 0⟩]
def cs8 (s1 s2 s3 : Sl) : List COp := [(0, nT, E_, s1, 0), (1, nT, E_, N_, 0), (0, nT, E_, s2, 0), (2, nT, E_, N_, 3), (6, E_, E_, N_, 0), (2, nT, E_, N_, 1), (0, nT, E_, s3, 0), (6, E_, E_, N_, 0)]
theorem each8 {s1 s2 s3 : Sl} {g : Frag} (h : star [Ar U8 s1 [1, 2], Ar U8 s2 [3, 4], Ar U8 s3 [5]] g) : Each OpO (cs8 s1 s2 s3) ops8 g := by
  have z : ∀ x : Int, i64d x = true → i64 x := fun x h => i64_of h
  refine each_take (fun g h => opo_data (z _ rfl) (z _ rfl) g h) ?_ h
  refine fun g => each_skip (fun g => opo_nil (z _ rfl) (z _ rfl) g) ?_
  refine fun g => each_take (fun g h => opo_data (z _ rfl) (z _ rfl) g h) ?_
  iterate 3 (refine fun g => each_skip (fun g => opo_nil (z _ rfl) (z _ rfl) g) ?_)
  refine fun g => each_take (fun g h => opo_data (z _ rfl) (z _ rfl) g h) ?_
  refine fun g => each_skip (fun g => opo_nil (z _ rfl) (z _ rfl) g) ?_
  exact fun _ _ => trivial

/-- Calls of one's own, out of what they are made of. -/
theorem oops_mk {l : Sl} {os : List COp} {ops : List DOp} {Ps : List HP} (he : ∀ g, star Ps g → Each OpO os ops g) {g : Frag} (h : star (Ar OP l os :: Ps) g) : OOps l ops g :=
  ⟨os, star_cons (l' := [Each OpO os ops]) (fun g hg => star_in (he g hg)) h⟩

/-- More calls behind. -/
theorem xmore {P : Program} {t ty e : TypeId} {sz by_ : Nat} {z : List Value} [a : AppT P t e sz by_ z] {l y : Sl} {os' : List COp} {ops ops' : List DOp} {G G' : List HP} {K : Sl → WP} [f : Find (OOps l ops) As G] [f2 : Split [Ar OP y os', Each OpO os' ops'] G G']
    (hsz : OP.sz = sz := by rfl) (hz : OP.f OP.zero = z := by rfl) (hb : (ops.length + ops'.length) * by_ ≤ 140737488355328) (h : ∀ l', Ent B (OOps l' (ops ++ ops') :: G') (K l')) : Ent B As (XApp P t t ty l.v y.v K) := by
  refine Ent.perm f.perm ?_
  refine Ent.perm ((f2.perm.cons _)) ?_
  refine xoops 0 fun os ho => ?_
  show Ent B (Ar OP l os :: Each OpO os ops :: Ar OP y os' :: Each OpO os' ops' :: G') _
  refine xfact 3 (fun g hg => Each.length hg) fun hl' => ?_
  refine xapp (E := OP) (y := y) (hsz := hsz) (hz := hz) (hb := by rw [ho, hl']; exact hb) (h := fun l' => ?_)
  refine xdrop 2 ?_
  exact xfold [Ar OP l' (os ++ os'), Each OpO os ops, Each OpO os' ops'] (OOps l' (ops ++ ops')) (fun g hg => ⟨_, star_cons (l' := [Each OpO (os ++ os') (ops ++ ops')]) (fun g hg => star_in (each_app hg)) hg⟩) (h l')

end Go.Cx
