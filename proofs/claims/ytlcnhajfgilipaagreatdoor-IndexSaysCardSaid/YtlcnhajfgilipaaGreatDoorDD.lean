/-
  The device: its calls.
-/
import Derived.Test.YtlcnhajfgilipaaGreatDoorDC
namespace Go.Cx
open Go Go.Cf
set_option linter.unusedVariables false
variable {B : Base} {As : List HP}

def FileR (c : CF) (f : DF) : HP := fun h => c.1 = f.nm ∧ c.2.2 = f.sy ∧ Ar U8 c.2.1 f.b h
abbrev devCells (m : DM) (s : Sl) : List Value := [.bool m.armed, .bool m.down, .int .i64 m.left, .int .i64 m.room, s.v]
def DevObj (p : Option Addr) (m : DM) : HP := fun h => DInv m ∧ ∃ b s cs, p = some ⟨b, 0, none⟩ ∧ star [Blk b (devCells m s), Ar FILE s cs, Each FileR cs m.fs] h

/-- What the files that lie say of the files that are meant. -/
structure SF (cs : List CF) (fs : List DF) : Prop where
  len : cs.length = fs.length
  each : ∀ (i : Nat) (c : CF) (f : DF), cs[i]? = some c → fs[i]? = some f → c.1 = f.nm ∧ c.2.2 = f.sy ∧ c.2.1.n = f.b.length ∧ c.2.1.n ≤ c.2.1.c

theorem SF.names {cs : List CF} {fs : List DF} (h : SF cs fs) : SameNames cs fs := ⟨h.len, fun i c f a b => (h.each i c f a b).1⟩

theorem sf_of {cs : List CF} {fs : List DF} {g : Frag} (h : Each FileR cs fs g) : SF cs fs :=
  ⟨h.length, fun i c f a b => each_read (R := FileR) (S := fun c f _ => c.1 = f.nm ∧ c.2.2 = f.sy ∧ c.2.1.n = f.b.length ∧ c.2.1.n ≤ c.2.1.c) (fun _ _ _ _ h _ => h) (fun x y g ⟨h1, h2, zs, h3⟩ => ⟨h1, h2, h3.1.symm, h3.cap⟩) h a b⟩

theorem xdev (i : Nat) {p : Option Addr} {m : DM} {F : List HP} [q : Pick i As (DevObj p m) F] {φ : WP}
    (k : DInv m → ∀ b s cs, p = some ⟨b, 0, none⟩ → SF cs m.fs → s.n = cs.length → Ent B (Blk b (devCells m s) :: Ar FILE s cs :: Each FileR cs m.fs :: F) φ) : Ent B As φ := by
  refine Ent.perm q.perm ?_
  intro w hw
  obtain ⟨g, ⟨a, c, ⟨hi, b, s, cs, hp, pa⟩, pc, d, sa, sc⟩, hm, hu⟩ := hw
  have hl : SF cs m.fs ∧ s.n = cs.length := by
    obtain ⟨_, _, _, ⟨_, _, ⟨_, par⟩, ⟨_, _, pe, _⟩, _⟩, _⟩ := pa
    exact ⟨sf_of pe, par.1.symm⟩
  exact k hi b s cs hp hl.1 hl.2 w ⟨g, (star_append [_, _, _] F).2 ⟨a, c, pa, pc, d, sa, sc⟩, hm, hu⟩

theorem xdev_back (b : Nat) (s : Sl) (cs : List CF) {m : DM} {G : List HP} [q : Split [Blk b (devCells m s), Ar FILE s cs, Each FileR cs m.fs] As G] {φ : WP}
    (hi : DInv m) (k : Ent B (DevObj (some ⟨b, 0, none⟩) m :: G) φ) : Ent B As φ :=
  xfold [Blk b (devCells m s), Ar FILE s cs, Each FileR cs m.fs] (DevObj (some ⟨b, 0, none⟩) m) (fun g hg => ⟨hi, b, s, cs, rfl, hg⟩) k

/-- .. where its parts are so by reckoning. -/
theorem xdev_put (i j l : Nat) {P1 P2 P3 : HP} {F F' F'' : List HP} [p : Pick i As P1 F] [q : Pick j F P2 F'] [r : Pick l F' P3 F''] {φ : WP} (b : Nat) (s : Sl) (cs : List CF) (m : DM) (hi : DInv m)
    (h : ∀ g, star [P1, P2, P3] g → star [Blk b (devCells m s), Ar FILE s cs, Each FileR cs m.fs] g) (k : Ent B (DevObj (some ⟨b, 0, none⟩) m :: F'') φ) : Ent B As φ :=
  xfold3 i j l (fun g hg => ⟨hi, b, s, cs, rfl, h g hg⟩) k

theorem find_raw (b : Nat) (s : Sl) (cs : List CF) (m : DM) (nm : ByteArray) (hs : Sorted m.fs) (sf : SF cs m.fs) (hl : m.fs.length ≤ 64) :
    Ct Pr F_device_Device_find [.pointer (some ⟨b, 0, none⟩), .string nm] (.tup [none, none]) [.int .i64, .bool] [Blk b (devCells m s), Ar FILE s cs] emp
    (fun t Bs => t.1 = (findL m.fs nm.toList : Int) ∧ t.2.1 = thereL m.fs nm.toList ∧ Bs = [Blk b (devCells m s), Ar FILE s cs]) := by
  refine spec2 c_device_Device_find fun B _ => ?_
  unfold device_Device_find
  refine xnil (xget (h := ?_))
  refine xcl (Search_spec s cs m.fs nm hs sf.names hl) rdb ?_
  rintro ⟨r, c, _⟩ _ ⟨h1, h2, rfl⟩
  exact app1 (ca2 (xfront 1 (xret ⟨h1, h2, rfl⟩)))

theorem named_spec (nm : ByteArray) : Ct Pr F_device_named [.string nm] .one [.bool] [] emp (fun t Bs => t.1 = namedB nm ∧ Bs = []) := by
  refine spec1 c_device_named fun B _ => ?_
  unfold device_named
  exact xret ⟨rfl, rfl⟩

theorem spend_raw (b : Nat) (s : Sl) (m : DM) (hl : i64 m.left) (ha : m.armed = true → 0 ≤ m.left) :
    Ct Pr F_device_power_spend [.pointer (some ⟨b, 0, none⟩)] .one [.bool] [Blk b (devCells m s)] emp (fun t Bs => t.1 = (spendM m).2 ∧ Bs = [Blk b (devCells (spendM m).1 s)]) := by
  refine spec1 c_device_power_spend fun B _ => ?_
  unfold device_power_spend
  refine xnil (xget (h := ?_))
  refine xjoin1 (fun x As' => x = (m.armed && m.left == 0) ∧ As' = [Blk b (devCells m s)]) ?_ ?_
  · intro J hJ
    refine xif (fun h => xnil (xget (h := hJ _ _ ⟨?_, rfl⟩))) (fun h => hJ _ _ ⟨?_, rfl⟩)
    · have h' : m.armed = true := h
      simp [h']
    · have h' : m.armed = false := h
      simp [h']
  · rintro _ _ ⟨rfl, rfl⟩
    refine xif (fun h => ?_) (fun h => ?_)
    · refine xnil (xset (h := xret ⟨?_, ?_⟩))
      · simp [spendM, h]
      · simp [spendM, h, devCells]
    · refine xnil (xget (h := xjoin (xif (fun g => ?_) (fun g => ?_))))
      · have g' : m.armed = true := g
        have h0 := ha g'
        have hne : ¬ m.left = 0 := fun e => by simp [g', e] at h
        refine xnil (xget (h := xnil (xset (h := ?_))))
        have e1 : IntKind.i64.wrap (m.left - 1) = m.left - 1 := by unfold i64 at hl; exact wrap_id _ (by omega) (by omega)
        have hsp : spendM m = ({ m with left := m.left - 1 }, true) := by
          unfold spendM
          rw [h, if_neg (by simp), if_pos g']
        rw [hsp, e1]
        exact xret ⟨rfl, rfl⟩
      · have g' : m.armed = false := g
        refine xret ⟨?_, ?_⟩ <;> simp [spendM, g']

theorem New_spec (room : Int) : Ct Pr F_device_New [.int .i64 room] (.tup [none, none]) [.ptr, .int .i64] [] emp
    (fun t Bs => (((room < 0 ∨ room > 16777216) ∧ t.1 = none ∧ t.2.1 = 3 ∧ Bs = []) ∨ (0 ≤ room ∧ room ≤ 16777216 ∧ t.2.1 = 0 ∧ (∃ b, t.1 = some ⟨b, 0, none⟩) ∧ Bs = [DevObj t.1 ⟨false, false, 0, room, []⟩]))) := by
  refine spec2 c_device_New fun B _ => ?_
  unfold device_New
  refine xif (fun h => ?_) (fun h => ?_)
  · refine xret (.inl ⟨?_, rfl, rfl, rfl⟩)
    simpa using h
  · have h' : 0 ≤ room ∧ room ≤ 16777216 := by simp at h; omega
    refine xnew fun b => xnone FILE (xadd (A := Each FileR [] []) trivial ?_)
    refine xdev_put 2 1 0 b ⟨none, 0, 0⟩ [] ⟨false, false, 0, room, []⟩ ⟨List.Pairwise.nil, by simp, by simp, by simp [usedN]; omega, h', by simp, ⟨by simp, by simp⟩, fun h => by cases h⟩ (fun _ h => h) ?_
    exact xret (.inr ⟨h'.1, h'.2, rfl, ⟨b, rfl⟩, rfl⟩)

theorem usedN_take (fs : List DF) (k : Nat) (h : k < fs.length) : usedN (fs.take (k + 1)) = usedN (fs.take k) + fs[k].b.length := by
  unfold usedN
  rw [List.take_add_one, List.getElem?_eq_getElem h, List.map_append, List.sum_append]
  simp

theorem usedN_take_le (fs : List DF) (k : Nat) : usedN (fs.take k) ≤ usedN fs := by
  conv => rhs; rw [← List.take_append_drop k fs]
  unfold usedN
  rw [List.map_append, List.sum_append]; omega

theorem Used_raw (b : Nat) (s : Sl) (cs : List CF) (m : DM) (hi : DInv m) (sf : SF cs m.fs) :
    Ct Pr F_device_Device_Used [.pointer (some ⟨b, 0, none⟩)] .one [.int .i64] [Blk b (devCells m s), Ar FILE s cs] emp (fun t Bs => t.1 = (usedN m.fs : Int) ∧ Bs = [Blk b (devCells m s), Ar FILE s cs]) := by
  refine spec1 c_device_Device_Used fun B _ => ?_
  unfold device_Device_Used
  have hu := hi.used
  have hroom := hi.room
  have hlen := hi.len
  refine xlen s fun hn _ => xnil (xget (h := ?_))
  refine xloop2 (fun n u i As => ∃ k : Nat, i = (k : Int) ∧ u = (usedN (m.fs.take k) : Int) ∧ n = m.fs.length - k ∧ k ≤ m.fs.length ∧ As = [Blk b (devCells m s), Ar FILE s cs]) m.fs.length ⟨0, rfl, rfl, rfl, by omega, rfl⟩ ?_
  rintro n _ _ _ K ⟨k, rfl, rfl, rfl, hk, rfl⟩ hK
  have hcl := sf.len
  refine xif_dec (fun h => ?_) (fun h => ?_)
  · have hf := List.getElem?_eq_getElem (l := m.fs) (i := k) (by omega)
    have hc := List.getElem?_eq_getElem (l := cs) (i := k) (by omega)
    obtain ⟨_, _, h3, _⟩ := sf.each _ _ _ hc hf
    have e := usedN_take m.fs k (by omega)
    have hle := usedN_take_le m.fs (k + 1)
    refine xidxn (h1 := by omega) (h := fun _ _ => ?_)
    refine xgetE hc (h := ?_)
    refine xgetEj hc (h := ?_)
    refine xgetEj hc (h := xnew fun b1 => xset (h := xset (h := xset (h := xget (h := ?_)))))
    rw [wrap_succ k (by omega), h3, wrap_id _ (by omega) (by omega)]
    refine xdrop 0 (hK (m.fs.length - (k + 1)) _ _ _ (by omega) ⟨k + 1, rfl, ?_, rfl, by omega, rfl⟩)
    rw [e]; show (_ : Int) = _; simp
  · have : k = m.fs.length := by omega
    subst this
    refine xret ⟨?_, rfl⟩
    rw [List.take_length]

theorem Free_raw (b : Nat) (s : Sl) (cs : List CF) (m : DM) (hi : DInv m) (sf : SF cs m.fs) :
    Ct Pr F_device_Device_Free [.pointer (some ⟨b, 0, none⟩)] .one [.int .i64] [Blk b (devCells m s), Ar FILE s cs] emp (fun t Bs => t.1 = m.room - (usedN m.fs : Int) ∧ Bs = [Blk b (devCells m s), Ar FILE s cs]) := by
  refine spec1 c_device_Device_Free fun B _ => ?_
  unfold device_Device_Free
  have hu := hi.used
  have hroom := hi.room
  refine xdraw (xnil (xget (h := ?_)))
  refine xcl (Used_raw b s cs m hi sf) rdb ?_
  rintro ⟨r, _⟩ _ ⟨hr, rfl⟩
  simp only at hr
  subst hr
  refine app2 (ca1 (xchk (h := ?_)))
  rw [wrap_id _ (by omega) (by omega)]
  exact xret ⟨rfl, rfl⟩

theorem Used_spec (p : Option Addr) (m : DM) : Ct Pr F_device_Device_Used [.pointer p] .one [.int .i64] [DevObj p m] emp (fun t Bs => t.1 = (usedN m.fs : Int) ∧ Bs = [DevObj p m]) := by
  refine spec1 (φ := XCall Pr F_device_Device_Used [.pointer p] .one [.int .i64]) id fun B _ => ?_
  refine xdev 0 fun hi b s cs hp sf hn => ?_
  subst hp
  refine xcl (Used_raw b s cs m hi sf) rdb ?_
  rintro ⟨r, _⟩ _ ⟨hr, rfl⟩
  exact app2 (ca1 (xdev_back b s cs hi (xret ⟨hr, rfl⟩)))

theorem Free_spec (p : Option Addr) (m : DM) : Ct Pr F_device_Device_Free [.pointer p] .one [.int .i64] [DevObj p m] emp (fun t Bs => t.1 = m.room - (usedN m.fs : Int) ∧ Bs = [DevObj p m]) := by
  refine spec1 (φ := XCall Pr F_device_Device_Free [.pointer p] .one [.int .i64]) id fun B _ => ?_
  refine xdev 0 fun hi b s cs hp sf hn => ?_
  subst hp
  refine xcl (Free_raw b s cs m hi sf) rdb ?_
  rintro ⟨r, _⟩ _ ⟨hr, rfl⟩
  exact app2 (ca1 (xdev_back b s cs hi (xret ⟨hr, rfl⟩)))

theorem Down_spec (p : Option Addr) (m : DM) : Ct Pr F_device_power_Down [.pointer p] .one [.bool] [DevObj p m] emp (fun t Bs => t.1 = m.down ∧ Bs = [DevObj p m]) := by
  refine spec1 c_device_power_Down fun B _ => ?_
  unfold device_power_Down
  refine xdev 0 fun hi b s cs hp sf hn => ?_
  subst hp
  exact xnil (xget (h := xdev_back b s cs hi (xret ⟨rfl, rfl⟩)))

theorem Arm_spec (p : Option Addr) (m : DM) (n : Int) (hn : i64 n) : Ct Pr F_device_power_Arm [.pointer p, .int .i64 n] (.tup []) [] [DevObj p m] emp (fun t Bs => Bs = [DevObj p (armM m n)]) := by
  refine spec0 c_device_power_Arm fun B _ => ?_
  unfold device_power_Arm
  refine xdev 0 fun hi b s cs hp sf hsn => ?_
  subst hp
  exact xnil (xset (h := xnil (xset (h := xdev_put 0 0 0 b s cs (armM m n) (arm_inv hi hn) (fun _ h => h) (xret rfl)))))

/-- Other files in the place of those. -/
theorem sorted_of {m : DM} (h : DInv m) : Sorted m.fs := h.sorted

theorem Read_spec (p : Option Addr) (m : DM) (nm : ByteArray) : Ct Pr F_device_Device_Read [.pointer p, .string nm] (.tup [none, none]) [.slice, .int .i64] [DevObj p m] emp
    (fun t Bs => t.2.1 = (readM m nm).2 ∧ Bs = [DevObj p m, Ar U8 t.1 (readM m nm).1]) := by
  refine spec2 c_device_Device_Read fun B _ => ?_
  unfold device_Device_Read
  refine xdev 0 fun hi b s cs hp sf hsn => ?_
  subst hp
  refine xcl (find_raw b s cs m nm hi.sorted sf hi.len) rdb ?_
  rintro ⟨r, c, _⟩ _ ⟨h1, h2, rfl⟩
  simp only at h1 h2
  subst h1 h2
  refine app2 (ca2 (xif (fun h => ?_) (fun h => ?_)))
  · have h' : thereL m.fs nm.toList = false := by simpa using h
    refine xnone U8 (xdev_back b s cs hi (xret ?_))
    simp [readM, h']
  · have h' : thereL m.fs nm.toList = true := by simpa using h
    obtain ⟨hf, _⟩ := getD_there (d := ⟨nm, [], 0⟩) h'
    have hlt : findL m.fs nm.toList < cs.length := by rw [sf.len]; exact (List.getElem?_eq_some_iff.1 hf).1
    have hc := List.getElem?_eq_getElem hlt
    have hb : (m.fs.getD (findL m.fs nm.toList) ⟨nm, [], 0⟩).b.length ≤ 16777216 := by
      have h1 := usedN_erase hf
      have h2 := hi.used
      have h3 := hi.room
      omega
    refine xnil (xget (h := ?_))
    refine xidxn (h1 := hlt) (h := fun _ _ => ?_)
    refine xgetEj hc (h := ?_)
    refine xcl (SClone_spec _ (m.fs.getD (findL m.fs nm.toList) ⟨nm, [], 0⟩).b (by omega)) (rds_pick 2 (fun g hg => each_read (R := FileR) (S := fun c f => RAr U8 c.2.1 f.b) (fun _ _ _ _ h s => h.mono s) (fun _ _ _ h => h.2.2.read) hg hc hf) (fun _ _ h s => h.mono s)) ?_
    rintro ⟨r, _⟩ _ rfl
    refine app1 (ca1 (xdev_back b s cs hi (xret ?_)))
    simp [readM, h']

theorem Names_spec (p : Option Addr) (m : DM) : Ct Pr F_device_Device_Names [.pointer p] .one [.slice] [DevObj p m] emp (fun t Bs => Bs = [DevObj p m, Ar ST t.1 (m.fs.map (·.nm))]) := by
  refine spec1 c_device_Device_Names fun B _ => ?_
  unfold device_Device_Names
  refine xdev 0 fun hi b s cs hp sf hsn => ?_
  subst hp
  have hlen := hi.len
  have hcl := sf.len
  refine xnil (xget (h := xnone ST ?_))
  refine xloop2 (fun n o i As => ∃ k : Nat, i = (k : Int) ∧ n = m.fs.length - k ∧ k ≤ m.fs.length ∧ As = [Ar ST o ((m.fs.map fun f : DF => f.nm).take k), Blk b (devCells m s), Ar FILE s cs, Each FileR cs m.fs]) m.fs.length ⟨0, rfl, rfl, by omega, rfl⟩ ?_
  rintro n o _ _ K ⟨k, rfl, rfl, hk, rfl⟩ hK
  refine xif_dec (fun h => ?_) (fun h => ?_)
  · have hf := List.getElem?_eq_getElem (l := m.fs) (i := k) (by omega)
    have hc := List.getElem?_eq_getElem (l := cs) (i := k) (by omega)
    obtain ⟨h1, _⟩ := sf.each _ _ _ hc hf
    refine xidxn (h1 := by omega) (h := fun _ _ => ?_)
    refine xgetE hc (h := ?_)
    refine xgetEj hc (h := ?_)
    refine xgetEj hc (h := xnew fun b1 => xset (h := xset (h := xset (h := xget (h := xnew fun b2 => ?_)))))
    refine xapp1 cs[k].1 (hb := by simp; omega) (h := fun s' => ?_)
    rw [wrap_succ k (by omega)]
    refine xdrop 0 (hK (m.fs.length - (k + 1)) _ _ _ (by omega) ⟨k + 1, rfl, rfl, by omega, ?_⟩)
    rw [List.take_add_one, List.getElem?_map, hf, h1]; rfl
  · have : k = m.fs.length := by omega
    subst this
    rw [List.take_of_length_le (by simp)]
    exact xdev_back b s cs hi (xret rfl)

end Go.Cx
