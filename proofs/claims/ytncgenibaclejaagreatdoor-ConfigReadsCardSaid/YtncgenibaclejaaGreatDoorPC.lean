/-
  A line read: the first, and a tag's.
-/
import Derived.Test.YtncgenibaclejaaGreatDoorPB
namespace Go.Cx
open Go Go.Cf
set_option linter.unusedVariables false
set_option maxRecDepth 100000
variable {B : Base} {As F : List HP} {α : Type}

section
variable {b : Nat} {ws : List (List UInt8)} {n m : Nat}

theorem wd_len (hm : ∀ w ∈ ws, w.length ≤ m) (i : Nat) : (wd ws i).length ≤ m := by
  unfold wd
  cases h : ws[i]? with
  | none => simp
  | some w => exact hm w (List.mem_of_getElem? h)

theorem xnext {G : List HP} {K : ByteArray → WP} (i : Nat) (bad : Bool) [s : Split [RdrI b ws i bad] As G] (hb : bad = false → i < ws.length)
    (h : ∀ bad', bad' = (bad || (wd ws i == [])) → Ent B (RdrI b ws (i + 1) bad' :: G) (K (BA (if bad = true then [] else wd ws i)))) : Ent B As (XCall Pr F_config_reader_next [.pointer (some ⟨b, 0, none⟩)] .one [.str] K) := by
  refine xcl (next_spec b ws i bad (wd ws i) (fun h => wd_get (hb h))) rdb ?_
  rintro ⟨t, _⟩ _ ⟨ht, rfl⟩
  obtain rfl : t = BA (if bad = true then [] else wd ws i) := ht
  exact app1 (ca1 (h _ rfl))
theorem xnumber {G : List HP} {K : Int → WP} (i : Nat) (bad : Bool) [s : Split [RdrI b ws i bad] As G] (hb : bad = false → i < ws.length) (hl : (wd ws i).length ≤ 1048576)
    (h : ∀ bad' v, bad' = (bad || (numI (wd ws i)).isNone) → (bad = false → ∀ x, numI (wd ws i) = some x → v = x) → Ent B (RdrI b ws (i + 1) bad' :: G) (K v)) : Ent B As (XCall Pr F_config_reader_number [.pointer (some ⟨b, 0, none⟩)] .one [.int .i64] K) := by
  refine xcl (number_spec b ws i bad (wd ws i) (fun h => wd_get (hb h)) hl) rdb ?_
  rintro ⟨t, _⟩ _ ⟨ht, rfl⟩
  exact app1 (ca1 (h _ t rfl ht))
theorem xbound27 {G : List HP} {K : Int → Bool → WP} (i : Nat) (bad : Bool) [s : Split [RdrI b ws i bad] As G] (hb : bad = false → i < ws.length) (hl : (wd ws i).length ≤ 1048576)
    (h : ∀ bad' v u, bad' = (bad || (boundV (wd ws i)).isNone) → (bad = false → ∀ x, boundV (wd ws i) = some x → v = x.1 ∧ u = x.2) → Ent B (RdrI b ws (i + 1) bad' :: G) (K v u)) : Ent B As (XCall Pr F_config_reader_bound [.pointer (some ⟨b, 0, none⟩)] (.tup [none, none]) [.int .i64, .bool] K) := by
  refine xcl (rbound_spec b ws i bad (wd ws i) (fun h => wd_get (hb h)) hl) rdb ?_
  rintro ⟨t, u, _⟩ _ ⟨ht, rfl⟩
  exact app1 (ca2 (h _ t u rfl ht))
end

theorem spec8 {P : Program} {f : FuncId} {args : List Value} {rs : Rs} {s0 s1 s2 s3 s4 s5 s6 s7 : Sh} {pre : List HP} {rd : HP} {post : Tup [s0, s1, s2, s3, s4, s5, s6, s7] → List HP → Prop} {φ : (s0.ty → s1.ty → s2.ty → s3.ty → s4.ty → s5.ty → s6.ty → s7.ty → WP) → WP} (c : ∀ {K : s0.ty → s1.ty → s2.ty → s3.ty → s4.ty → s5.ty → s6.ty → s7.ty → WP} {w : World}, φ K w → XCall P f args rs [s0, s1, s2, s3, s4, s5, s6, s7] K w)
    (h : ∀ B : Base, rd (frz B.W B.h0) → Ent B pre (φ (fun x0 x1 x2 x3 x4 x5 x6 x7 => Ret B (ss := [s0, s1, s2, s3, s4, s5, s6, s7]) post (x0, x1, x2, x3, x4, x5, x6, x7, ())))) : Ct P f args rs [s0, s1, s2, s3, s4, s5, s6, s7] pre rd post := spec_gen (φ := φ) c h
theorem ca8 {s0 s1 s2 s3 s4 s5 s6 s7 : Sh} {K : s0.ty → s1.ty → s2.ty → s3.ty → s4.ty → s5.ty → s6.ty → s7.ty → WP} {x0 : s0.ty} {x1 : s1.ty} {x2 : s2.ty} {x3 : s3.ty} {x4 : s4.ty} {x5 : s5.ty} {x6 : s6.ty} {x7 : s7.ty} {v : Unit} (h : Ent B As (K x0 x1 x2 x3 x4 x5 x6 x7)) : Ent B As (Cur.app [s0, s1, s2, s3, s4, s5, s6, s7] K (x0, x1, x2, x3, x4, x5, x6, x7, v)) := h
theorem spec9 {P : Program} {f : FuncId} {args : List Value} {rs : Rs} {s0 s1 s2 s3 s4 s5 s6 s7 s8 : Sh} {pre : List HP} {rd : HP} {post : Tup [s0, s1, s2, s3, s4, s5, s6, s7, s8] → List HP → Prop} {φ : (s0.ty → s1.ty → s2.ty → s3.ty → s4.ty → s5.ty → s6.ty → s7.ty → s8.ty → WP) → WP} (c : ∀ {K : s0.ty → s1.ty → s2.ty → s3.ty → s4.ty → s5.ty → s6.ty → s7.ty → s8.ty → WP} {w : World}, φ K w → XCall P f args rs [s0, s1, s2, s3, s4, s5, s6, s7, s8] K w)
    (h : ∀ B : Base, rd (frz B.W B.h0) → Ent B pre (φ (fun x0 x1 x2 x3 x4 x5 x6 x7 x8 => Ret B (ss := [s0, s1, s2, s3, s4, s5, s6, s7, s8]) post (x0, x1, x2, x3, x4, x5, x6, x7, x8, ())))) : Ct P f args rs [s0, s1, s2, s3, s4, s5, s6, s7, s8] pre rd post := spec_gen (φ := φ) c h
theorem ca9 {s0 s1 s2 s3 s4 s5 s6 s7 s8 : Sh} {K : s0.ty → s1.ty → s2.ty → s3.ty → s4.ty → s5.ty → s6.ty → s7.ty → s8.ty → WP} {x0 : s0.ty} {x1 : s1.ty} {x2 : s2.ty} {x3 : s3.ty} {x4 : s4.ty} {x5 : s5.ty} {x6 : s6.ty} {x7 : s7.ty} {x8 : s8.ty} {v : Unit} (h : Ent B As (K x0 x1 x2 x3 x4 x5 x6 x7 x8)) : Ent B As (Cur.app [s0, s1, s2, s3, s4, s5, s6, s7, s8] K (x0, x1, x2, x3, x4, x5, x6, x7, x8, v)) := h
theorem spec20 {P : Program} {f : FuncId} {args : List Value} {rs : Rs} {s0 s1 s2 s3 s4 s5 s6 s7 s8 s9 s10 s11 s12 s13 s14 s15 s16 s17 s18 s19 : Sh} {pre : List HP} {rd : HP} {post : Tup [s0, s1, s2, s3, s4, s5, s6, s7, s8, s9, s10, s11, s12, s13, s14, s15, s16, s17, s18, s19] → List HP → Prop} {φ : (s0.ty → s1.ty → s2.ty → s3.ty → s4.ty → s5.ty → s6.ty → s7.ty → s8.ty → s9.ty → s10.ty → s11.ty → s12.ty → s13.ty → s14.ty → s15.ty → s16.ty → s17.ty → s18.ty → s19.ty → WP) → WP} (c : ∀ {K : s0.ty → s1.ty → s2.ty → s3.ty → s4.ty → s5.ty → s6.ty → s7.ty → s8.ty → s9.ty → s10.ty → s11.ty → s12.ty → s13.ty → s14.ty → s15.ty → s16.ty → s17.ty → s18.ty → s19.ty → WP} {w : World}, φ K w → XCall P f args rs [s0, s1, s2, s3, s4, s5, s6, s7, s8, s9, s10, s11, s12, s13, s14, s15, s16, s17, s18, s19] K w)
    (h : ∀ B : Base, rd (frz B.W B.h0) → Ent B pre (φ (fun x0 x1 x2 x3 x4 x5 x6 x7 x8 x9 x10 x11 x12 x13 x14 x15 x16 x17 x18 x19 => Ret B (ss := [s0, s1, s2, s3, s4, s5, s6, s7, s8, s9, s10, s11, s12, s13, s14, s15, s16, s17, s18, s19]) post (x0, x1, x2, x3, x4, x5, x6, x7, x8, x9, x10, x11, x12, x13, x14, x15, x16, x17, x18, x19, ())))) : Ct P f args rs [s0, s1, s2, s3, s4, s5, s6, s7, s8, s9, s10, s11, s12, s13, s14, s15, s16, s17, s18, s19] pre rd post := spec_gen (φ := φ) c h
theorem ca20 {s0 s1 s2 s3 s4 s5 s6 s7 s8 s9 s10 s11 s12 s13 s14 s15 s16 s17 s18 s19 : Sh} {K : s0.ty → s1.ty → s2.ty → s3.ty → s4.ty → s5.ty → s6.ty → s7.ty → s8.ty → s9.ty → s10.ty → s11.ty → s12.ty → s13.ty → s14.ty → s15.ty → s16.ty → s17.ty → s18.ty → s19.ty → WP} {x0 : s0.ty} {x1 : s1.ty} {x2 : s2.ty} {x3 : s3.ty} {x4 : s4.ty} {x5 : s5.ty} {x6 : s6.ty} {x7 : s7.ty} {x8 : s8.ty} {x9 : s9.ty} {x10 : s10.ty} {x11 : s11.ty} {x12 : s12.ty} {x13 : s13.ty} {x14 : s14.ty} {x15 : s15.ty} {x16 : s16.ty} {x17 : s17.ty} {x18 : s18.ty} {x19 : s19.ty} {v : Unit} (h : Ent B As (K x0 x1 x2 x3 x4 x5 x6 x7 x8 x9 x10 x11 x12 x13 x14 x15 x16 x17 x18 x19)) : Ent B As (Cur.app [s0, s1, s2, s3, s4, s5, s6, s7, s8, s9, s10, s11, s12, s13, s14, s15, s16, s17, s18, s19] K (x0, x1, x2, x3, x4, x5, x6, x7, x8, x9, x10, x11, x12, x13, x14, x15, x16, x17, x18, x19, v)) := h

def PE : Enc (Option Addr) := ⟨fun p => [.pointer p], 1, fun _ => rfl, fun x v h => by simp at h; subst h; rfl, by decide, none⟩

theorem head_spec (line : ByteArray) (hs : line.size ≤ 1048576) : Ct Pr F_config_head [.string line] (.tup [some 7, none]) [.int .i64, .int .i64, .int .i64, .int .i64, .int .i64, .int .i64, .slice, .bool] [] GMax
    (fun t Bs => t.2.2.2.2.2.2.2.1 = (headM (splitL 32 line.data.toList)).isSome ∧ (∀ c, headM (splitL 32 line.data.toList) = some c → t = (c.timeout, c.retries, c.window, c.resend, c.span, c.keep, ⟨none, 0, 0⟩, true, ())) ∧ Bs = []) := by
  refine spec8 c_config_head fun B hr => ?_
  haveI : FroP B GMax := ⟨hr, fun _ _ h s => GMax.mono _ _ h s⟩
  unfold config_head
  generalize hws : splitL 32 line.data.toList = ws
  have hline : line.data.toList.length = line.size := by rw [Array.length_toList]; rfl
  have hm : ∀ w ∈ ws, w.length ≤ 1048576 := fun w hw => by
    rw [← hws] at hw
    have := splitL_len hw; omega
  refine xnew fun b => ?_
  refine xcall0 (readerOf_spec line 7 hs ws hws.symm) rdb ?_
  rintro ⟨q, _⟩ _ ⟨r, hq, rfl⟩
  obtain rfl : q = some ⟨r, 0, none⟩ := hq
  refine app1 (ca1 ?_)
  generalize hb0 : (!(ws.length == 7)) = b0
  have g0 : b0 = false → ws.length = 7 := fun h => by rw [← hb0] at h; simpa using h
  refine xnext 0 b0 (fun h => by rw [g0 h]; decide) fun b1 hb1 => ?_
  have i1 : b1 = false → b0 = false := fun h => by rw [hb1] at h; exact (Bool.or_eq_false_iff.1 h).1
  have e0 := BA_eqv (if b0 = true then [] else wd ws 0) [103, 97, 116, 101, 119, 97, 121]
  refine xjoin1 (fun (c : Bool) As' => As' = [RdrI r ws 1 b1, Blk b [.int .i64 0, .int .i64 0, .int .i64 0, .int .i64 0, .int .i64 0, .int .i64 0, .slice none 0 0]] ∧ c = (!((if b0 = true then [] else wd ws 0) == gwW) || b1)) (fun K hK => ?_) ?_
  · refine xif (fun h => hK _ _ ⟨rfl, ?_⟩) (fun h => ?_)
    · have h : (!((if b0 = true then [] else wd ws 0) == gwW)) = true := by rw [show gwW = [103, 97, 116, 101, 119, 97, 121] from rfl, ← e0]; exact h
      rw [h]; rfl
    · have h : (!((if b0 = true then [] else wd ws 0) == gwW)) = false := by rw [show gwW = [103, 97, 116, 101, 119, 97, 121] from rfl, ← e0]; exact h
      rw [h, Bool.false_or] at hK
      refine xrdr 0 fun sl rest hrest hc => ?_
      refine xnil (xget (h := ?_))
      refine xfold [Blk r [sl.v, .bool b1], RAr Cf.ST sl (rest.map BA)] (RdrI r ws 1 b1) (fun g hg => ⟨sl, rest, hrest, hc, hg⟩) (hK _ _ ⟨rfl, rfl⟩)
  rintro c As2 ⟨rfl, hc⟩
  have i2 : c = false → b0 = false ∧ wd ws 0 = gwW := fun h => by
    rw [h] at hc
    have hc := Bool.or_eq_false_iff.1 hc.symm
    have h0 := i1 hc.2
    refine ⟨h0, ?_⟩
    have := hc.1
    rw [h0] at this
    simpa using this
  have j2 : b0 = false → wd ws 0 = gwW → c = false := fun h1 h2 => by
    rw [hc, hb1, h1, h2]; rfl
  clear hc e0
  refine xrdr 0 fun sl rest hrest hcap => ?_
  refine xnil (xset (h := ?_))
  refine xfold [Blk r [sl.v, .bool c], RAr Cf.ST sl (rest.map BA)] (RdrI r ws 1 c) (fun g hg => ⟨sl, rest, fun h => hrest (by rw [hb1, (i2 h).1, (i2 h).2]; rfl), hcap, hg⟩) ?_
  refine xnew fun b1 => xnew fun b2 => ?_
  refine xfold1 (Q := Ar PE ⟨some ⟨b2, 0, none⟩, 6, 6⟩ [some ⟨b1, 0, none⟩, some ⟨b1, 1, none⟩, some ⟨b1, 2, none⟩, some ⟨b1, 3, none⟩, some ⟨b1, 4, none⟩, some ⟨b1, 5, none⟩]) 0 (fun g hg => ⟨[], blk_ar (E := PE) [some ⟨b1, 0, none⟩, some ⟨b1, 1, none⟩, some ⟨b1, 2, none⟩, some ⟨b1, 3, none⟩, some ⟨b1, 4, none⟩, some ⟨b1, 5, none⟩] 6 rfl rfl hg⟩) ?_
  have gl : c = false → ws.length = 7 := fun h => g0 (i2 h).1
  refine xuse [RdrI r ws (0 + 1) c, Blk b1 [.int .i64 0, .int .i64 0, .int .i64 0, .int .i64 0, .int .i64 0, .int .i64 0, .slice none 0 0], Ar PE ⟨some ⟨b2, 0, none⟩, 6, 6⟩ [some ⟨b1, 0, none⟩, some ⟨b1, 1, none⟩, some ⟨b1, 2, none⟩, some ⟨b1, 3, none⟩, some ⟨b1, 4, none⟩, some ⟨b1, 5, none⟩], Blk b [.int .i64 0, .int .i64 0, .int .i64 0, .int .i64 0, .int .i64 0, .int .i64 0, .slice none 0 0]] ?_
  refine xloop1 (fun m (x : Int) As' => ∃ (k : Nat) (bk : Bool) (v0 v1 v2 v3 v4 v5 : Int), x = (k : Int) ∧ m = 6 - k ∧ k ≤ 6 ∧ ((bk = false → c = false ∧ (0 < k → numI (wd ws 1) = some v0) ∧ (1 < k → numI (wd ws 2) = some v1) ∧ (2 < k → numI (wd ws 3) = some v2) ∧ (3 < k → numI (wd ws 4) = some v3) ∧ (4 < k → numI (wd ws 5) = some v4) ∧ (5 < k → numI (wd ws 6) = some v5)) ∧ (c = false → (0 < k → (numI (wd ws 1)).isNone = false) → (1 < k → (numI (wd ws 2)).isNone = false) → (2 < k → (numI (wd ws 3)).isNone = false) → (3 < k → (numI (wd ws 4)).isNone = false) → (4 < k → (numI (wd ws 5)).isNone = false) → (5 < k → (numI (wd ws 6)).isNone = false) → bk = false)) ∧ As' = [RdrI r ws (k + 1) bk, Blk b1 [.int .i64 v0, .int .i64 v1, .int .i64 v2, .int .i64 v3, .int .i64 v4, .int .i64 v5, .slice none 0 0], Ar PE ⟨some ⟨b2, 0, none⟩, 6, 6⟩ [some ⟨b1, 0, none⟩, some ⟨b1, 1, none⟩, some ⟨b1, 2, none⟩, some ⟨b1, 3, none⟩, some ⟨b1, 4, none⟩, some ⟨b1, 5, none⟩], Blk b [.int .i64 0, .int .i64 0, .int .i64 0, .int .i64 0, .int .i64 0, .int .i64 0, .slice none 0 0]]) 6 ⟨0, c, 0, 0, 0, 0, 0, 0, rfl, rfl, by omega, ⟨fun h => ⟨h, fun h => absurd h (by omega), fun h => absurd h (by omega), fun h => absurd h (by omega), fun h => absurd h (by omega), fun h => absurd h (by omega), fun h => absurd h (by omega)⟩, fun h _ _ _ _ _ _ => h⟩, rfl⟩ ?_
  rintro m x As' K ⟨k, bk, v0, v1, v2, v3, v4, v5, rfl, rfl, hk, ⟨hc1, hc2⟩, rfl⟩ hK
  refine xif_dec (fun hp => ?_) (fun hp => ?_)
  · have hp : k < 6 := by omega
    have hb : bk = false → k + 1 < ws.length := fun h => by rw [gl (hc1 h).1]; omega
    refine xidxn (E := PE) (xs := [some ⟨b1, 0, none⟩, some ⟨b1, 1, none⟩, some ⟨b1, 2, none⟩, some ⟨b1, 3, none⟩, some ⟨b1, 4, none⟩, some ⟨b1, 5, none⟩]) (s := ⟨some ⟨b2, 0, none⟩, 6, 6⟩) (h1 := by simpa using hp) (h := fun q hq => ?_)
    refine xgetE (E := PE) (xs := [some ⟨b1, 0, none⟩, some ⟨b1, 1, none⟩, some ⟨b1, 2, none⟩, some ⟨b1, 3, none⟩, some ⟨b1, 4, none⟩, some ⟨b1, 5, none⟩]) hq (h := ?_)
    refine xnumber (k + 1) bk hb (wd_len hm _) fun bad' v hbad hv => ?_
    have i3 : bad' = false → bk = false ∧ (numI (wd ws (k + 1))).isNone = false := fun h => by
      rw [hbad] at h; exact Bool.or_eq_false_iff.1 h
    have some_of : (numI (wd ws (k + 1))).isNone = false → bk = false → numI (wd ws (k + 1)) = some v := fun h1 h2 => by
      cases e : numI (wd ws (k + 1)) with
      | none => rw [e] at h1; cases h1
      | some y => rw [hv h2 y e]
    have next : ∀ {v0' v1' v2' v3' v4' v5' : Int}, ((bad' = false → c = false ∧ (0 < k + 1 → numI (wd ws 1) = some v0') ∧ (1 < k + 1 → numI (wd ws 2) = some v1') ∧ (2 < k + 1 → numI (wd ws 3) = some v2') ∧ (3 < k + 1 → numI (wd ws 4) = some v3') ∧ (4 < k + 1 → numI (wd ws 5) = some v4') ∧ (5 < k + 1 → numI (wd ws 6) = some v5')) ∧ (c = false → (0 < k + 1 → (numI (wd ws 1)).isNone = false) → (1 < k + 1 → (numI (wd ws 2)).isNone = false) → (2 < k + 1 → (numI (wd ws 3)).isNone = false) → (3 < k + 1 → (numI (wd ws 4)).isNone = false) → (4 < k + 1 → (numI (wd ws 5)).isNone = false) → (5 < k + 1 → (numI (wd ws 6)).isNone = false) → bad' = false)) → Ent B [RdrI r ws (k + 1 + 1) bad', Blk b1 [.int .i64 v0', .int .i64 v1', .int .i64 v2', .int .i64 v3', .int .i64 v4', .int .i64 v5', .slice none 0 0], Ar PE ⟨some ⟨b2, 0, none⟩, 6, 6⟩ [some ⟨b1, 0, none⟩, some ⟨b1, 1, none⟩, some ⟨b1, 2, none⟩, some ⟨b1, 3, none⟩, some ⟨b1, 4, none⟩, some ⟨b1, 5, none⟩], Blk b [.int .i64 0, .int .i64 0, .int .i64 0, .int .i64 0, .int .i64 0, .int .i64 0, .slice none 0 0]] (K (IntKind.i64.wrap ((k : Int) + 1))) := fun {v0' v1' v2' v3' v4' v5'} h => by
      rw [wrap_succ k (by omega)]
      exact hK (6 - (k + 1)) _ _ (by omega) ⟨k + 1, bad', _, _, _, _, _, _, rfl, rfl, by omega, h, rfl⟩
    have h6 : k = 0 ∨ k = 1 ∨ k = 2 ∨ k = 3 ∨ k = 4 ∨ k = 5 := by omega
    rcases h6 with rfl | rfl | rfl | rfl | rfl | rfl
    · skip
      obtain rfl := Option.some.inj hq
      refine xnil (xset (h := ?_))
      refine xuse [RdrI r ws (0 + 1 + 1) bad', Blk b1 [.int .i64 v, .int .i64 v1, .int .i64 v2, .int .i64 v3, .int .i64 v4, .int .i64 v5, .slice none 0 0], Ar PE ⟨some ⟨b2, 0, none⟩, 6, 6⟩ [some ⟨b1, 0, none⟩, some ⟨b1, 1, none⟩, some ⟨b1, 2, none⟩, some ⟨b1, 3, none⟩, some ⟨b1, 4, none⟩, some ⟨b1, 5, none⟩], Blk b [.int .i64 0, .int .i64 0, .int .i64 0, .int .i64 0, .int .i64 0, .int .i64 0, .slice none 0 0]] (next ⟨fun h => ?_, fun h0 p0 p1 p2 p3 p4 p5 => ?_⟩)
      · obtain ⟨hb', hn⟩ := i3 h
        obtain ⟨qc, q0, q1, q2, q3, q4, q5⟩ := hc1 hb'
        exact ⟨qc, fun _ => some_of hn hb', fun h => absurd h (by omega), fun h => absurd h (by omega), fun h => absurd h (by omega), fun h => absurd h (by omega), fun h => absurd h (by omega)⟩
      · rw [hbad, hc2 h0 (fun h => absurd h (by omega)) (fun h => absurd h (by omega)) (fun h => absurd h (by omega)) (fun h => absurd h (by omega)) (fun h => absurd h (by omega)) (fun h => absurd h (by omega)), Bool.false_or]
        exact p0 (by omega)
    · skip
      obtain rfl := Option.some.inj hq
      refine xnil (xset (h := ?_))
      refine xuse [RdrI r ws (1 + 1 + 1) bad', Blk b1 [.int .i64 v0, .int .i64 v, .int .i64 v2, .int .i64 v3, .int .i64 v4, .int .i64 v5, .slice none 0 0], Ar PE ⟨some ⟨b2, 0, none⟩, 6, 6⟩ [some ⟨b1, 0, none⟩, some ⟨b1, 1, none⟩, some ⟨b1, 2, none⟩, some ⟨b1, 3, none⟩, some ⟨b1, 4, none⟩, some ⟨b1, 5, none⟩], Blk b [.int .i64 0, .int .i64 0, .int .i64 0, .int .i64 0, .int .i64 0, .int .i64 0, .slice none 0 0]] (next ⟨fun h => ?_, fun h0 p0 p1 p2 p3 p4 p5 => ?_⟩)
      · obtain ⟨hb', hn⟩ := i3 h
        obtain ⟨qc, q0, q1, q2, q3, q4, q5⟩ := hc1 hb'
        exact ⟨qc, fun _ => q0 (by omega), fun _ => some_of hn hb', fun h => absurd h (by omega), fun h => absurd h (by omega), fun h => absurd h (by omega), fun h => absurd h (by omega)⟩
      · rw [hbad, hc2 h0 (fun _ => p0 (by omega)) (fun h => absurd h (by omega)) (fun h => absurd h (by omega)) (fun h => absurd h (by omega)) (fun h => absurd h (by omega)) (fun h => absurd h (by omega)), Bool.false_or]
        exact p1 (by omega)
    · skip
      obtain rfl := Option.some.inj hq
      refine xnil (xset (h := ?_))
      refine xuse [RdrI r ws (2 + 1 + 1) bad', Blk b1 [.int .i64 v0, .int .i64 v1, .int .i64 v, .int .i64 v3, .int .i64 v4, .int .i64 v5, .slice none 0 0], Ar PE ⟨some ⟨b2, 0, none⟩, 6, 6⟩ [some ⟨b1, 0, none⟩, some ⟨b1, 1, none⟩, some ⟨b1, 2, none⟩, some ⟨b1, 3, none⟩, some ⟨b1, 4, none⟩, some ⟨b1, 5, none⟩], Blk b [.int .i64 0, .int .i64 0, .int .i64 0, .int .i64 0, .int .i64 0, .int .i64 0, .slice none 0 0]] (next ⟨fun h => ?_, fun h0 p0 p1 p2 p3 p4 p5 => ?_⟩)
      · obtain ⟨hb', hn⟩ := i3 h
        obtain ⟨qc, q0, q1, q2, q3, q4, q5⟩ := hc1 hb'
        exact ⟨qc, fun _ => q0 (by omega), fun _ => q1 (by omega), fun _ => some_of hn hb', fun h => absurd h (by omega), fun h => absurd h (by omega), fun h => absurd h (by omega)⟩
      · rw [hbad, hc2 h0 (fun _ => p0 (by omega)) (fun _ => p1 (by omega)) (fun h => absurd h (by omega)) (fun h => absurd h (by omega)) (fun h => absurd h (by omega)) (fun h => absurd h (by omega)), Bool.false_or]
        exact p2 (by omega)
    · skip
      obtain rfl := Option.some.inj hq
      refine xnil (xset (h := ?_))
      refine xuse [RdrI r ws (3 + 1 + 1) bad', Blk b1 [.int .i64 v0, .int .i64 v1, .int .i64 v2, .int .i64 v, .int .i64 v4, .int .i64 v5, .slice none 0 0], Ar PE ⟨some ⟨b2, 0, none⟩, 6, 6⟩ [some ⟨b1, 0, none⟩, some ⟨b1, 1, none⟩, some ⟨b1, 2, none⟩, some ⟨b1, 3, none⟩, some ⟨b1, 4, none⟩, some ⟨b1, 5, none⟩], Blk b [.int .i64 0, .int .i64 0, .int .i64 0, .int .i64 0, .int .i64 0, .int .i64 0, .slice none 0 0]] (next ⟨fun h => ?_, fun h0 p0 p1 p2 p3 p4 p5 => ?_⟩)
      · obtain ⟨hb', hn⟩ := i3 h
        obtain ⟨qc, q0, q1, q2, q3, q4, q5⟩ := hc1 hb'
        exact ⟨qc, fun _ => q0 (by omega), fun _ => q1 (by omega), fun _ => q2 (by omega), fun _ => some_of hn hb', fun h => absurd h (by omega), fun h => absurd h (by omega)⟩
      · rw [hbad, hc2 h0 (fun _ => p0 (by omega)) (fun _ => p1 (by omega)) (fun _ => p2 (by omega)) (fun h => absurd h (by omega)) (fun h => absurd h (by omega)) (fun h => absurd h (by omega)), Bool.false_or]
        exact p3 (by omega)
    · skip
      obtain rfl := Option.some.inj hq
      refine xnil (xset (h := ?_))
      refine xuse [RdrI r ws (4 + 1 + 1) bad', Blk b1 [.int .i64 v0, .int .i64 v1, .int .i64 v2, .int .i64 v3, .int .i64 v, .int .i64 v5, .slice none 0 0], Ar PE ⟨some ⟨b2, 0, none⟩, 6, 6⟩ [some ⟨b1, 0, none⟩, some ⟨b1, 1, none⟩, some ⟨b1, 2, none⟩, some ⟨b1, 3, none⟩, some ⟨b1, 4, none⟩, some ⟨b1, 5, none⟩], Blk b [.int .i64 0, .int .i64 0, .int .i64 0, .int .i64 0, .int .i64 0, .int .i64 0, .slice none 0 0]] (next ⟨fun h => ?_, fun h0 p0 p1 p2 p3 p4 p5 => ?_⟩)
      · obtain ⟨hb', hn⟩ := i3 h
        obtain ⟨qc, q0, q1, q2, q3, q4, q5⟩ := hc1 hb'
        exact ⟨qc, fun _ => q0 (by omega), fun _ => q1 (by omega), fun _ => q2 (by omega), fun _ => q3 (by omega), fun _ => some_of hn hb', fun h => absurd h (by omega)⟩
      · rw [hbad, hc2 h0 (fun _ => p0 (by omega)) (fun _ => p1 (by omega)) (fun _ => p2 (by omega)) (fun _ => p3 (by omega)) (fun h => absurd h (by omega)) (fun h => absurd h (by omega)), Bool.false_or]
        exact p4 (by omega)
    · skip
      obtain rfl := Option.some.inj hq
      refine xnil (xset (h := ?_))
      refine xuse [RdrI r ws (5 + 1 + 1) bad', Blk b1 [.int .i64 v0, .int .i64 v1, .int .i64 v2, .int .i64 v3, .int .i64 v4, .int .i64 v, .slice none 0 0], Ar PE ⟨some ⟨b2, 0, none⟩, 6, 6⟩ [some ⟨b1, 0, none⟩, some ⟨b1, 1, none⟩, some ⟨b1, 2, none⟩, some ⟨b1, 3, none⟩, some ⟨b1, 4, none⟩, some ⟨b1, 5, none⟩], Blk b [.int .i64 0, .int .i64 0, .int .i64 0, .int .i64 0, .int .i64 0, .int .i64 0, .slice none 0 0]] (next ⟨fun h => ?_, fun h0 p0 p1 p2 p3 p4 p5 => ?_⟩)
      · obtain ⟨hb', hn⟩ := i3 h
        obtain ⟨qc, q0, q1, q2, q3, q4, q5⟩ := hc1 hb'
        exact ⟨qc, fun _ => q0 (by omega), fun _ => q1 (by omega), fun _ => q2 (by omega), fun _ => q3 (by omega), fun _ => q4 (by omega), fun _ => some_of hn hb'⟩
      · rw [hbad, hc2 h0 (fun _ => p0 (by omega)) (fun _ => p1 (by omega)) (fun _ => p2 (by omega)) (fun _ => p3 (by omega)) (fun _ => p4 (by omega)) (fun h => absurd h (by omega)), Bool.false_or]
        exact p5 (by omega)
  · obtain rfl : k = 6 := by omega
    refine xdraw ?_
    iterate 6 (refine xget (h := ?_))
    refine xget (s := .slice) (x := ⟨none, 0, 0⟩) (h := ?_)
    refine xrdr 0 fun sl rest hrest hcap => ?_
    refine xnil (xget (h := ?_))
    iterate 7 (refine xset (h := ?_))
    refine xchk (h := ?_)
    iterate 6 (refine xget (h := ?_))
    refine xget (s := .slice) (x := ⟨none, 0, 0⟩) (h := ?_)
    have key : bk = false → headM ws = some ⟨v0, v1, v2, v3, v4, v5, []⟩ := fun h => by
      obtain ⟨qc, q0, q1, q2, q3, q4, q5⟩ := hc1 h
      exact headM_some.2 ⟨gl qc, (i2 qc).2, q0 (by omega), q1 (by omega), q2 (by omega), q3 (by omega), q4 (by omega), q5 (by omega), rfl⟩
    have back : ∀ cc, headM ws = some cc → bk = false := fun cc h => by
      obtain ⟨h1, h2, k0, k1, k2, k3, k4, k5, _⟩ := headM_some.1 h
      have hc0 : c = false := j2 (by rw [← hb0, h1]; rfl) h2
      exact hc2 hc0 (fun _ => by rw [k0]; rfl) (fun _ => by rw [k1]; rfl) (fun _ => by rw [k2]; rfl) (fun _ => by rw [k3]; rfl) (fun _ => by rw [k4]; rfl) (fun _ => by rw [k5]; rfl)
    refine xkeep (l := []) (xret ⟨?_, fun cc h => ?_, rfl⟩)
    · cases hbk : bk with
      | false => rw [key hbk]; rfl
      | true =>
        cases e : headM ws with
        | none => rfl
        | some cc => rw [back cc e] at hbk; cases hbk
    · have hbk := back cc h
      rw [key hbk] at h
      obtain rfl := Option.some.inj h
      rw [hbk]; rfl





theorem tag_spec (line : ByteArray) (hs : line.size ≤ 1048576) : Ct Pr F_config_tag [.string line] (.tup [some 19, none]) [.str, .int .i64, .int .i64, .int .i64, .int .i64, .bool, .bool, .bool, .int .i64, .int .i64, .int .i64, .int .i64, .int .i64, .bool, .bool, .bool, .int .i64, .int .i64, .int .i64, .bool] [] GMax
    (fun r Bs => r.2.2.2.2.2.2.2.2.2.2.2.2.2.2.2.2.2.2.2.1 = (tagM (splitL 32 line.data.toList)).isSome ∧ (∀ t, tagM (splitL 32 line.data.toList) = some t → r = (t.name, t.unit, t.kind, t.addr, t.every, t.wide, t.sgn, t.swap, t.mul, t.div, t.add, t.dead, t.quiet, t.ulow, t.uhigh, t.latch, t.low, t.high, t.hyst, true, ())) ∧ Bs = []) := by
  refine spec20 c_config_tag fun B hr => ?_
  haveI : FroP B GMax := ⟨hr, fun _ _ h s => GMax.mono _ _ h s⟩
  unfold config_tag
  generalize hws : splitL 32 line.data.toList = ws
  have hline : line.data.toList.length = line.size := by rw [Array.length_toList]; rfl
  have hm : ∀ w ∈ ws, w.length ≤ 1048576 := fun w hw => by
    rw [← hws] at hw
    have := splitL_len hw; omega
  refine xnew fun b => ?_
  refine xcall0 (readerOf_spec line 16 hs ws hws.symm) rdb ?_
  rintro ⟨q, _⟩ _ ⟨r, hq, rfl⟩
  obtain rfl : q = some ⟨r, 0, none⟩ := hq
  refine app1 (ca1 ?_)
  generalize hb0 : (!(ws.length == 16)) = b0
  have gb0 : b0 = false → ws.length = 16 := fun h => by rw [← hb0] at h; simpa using h
  refine xnext 0 b0 (fun h => by rw [gb0 h]; decide) fun b1 hb1 => ?_
  have ib1 : b1 = false → b0 = false ∧ (wd ws 0 == []) = false := fun h => by rw [hb1] at h; exact Bool.or_eq_false_iff.1 h
  have gb1 : b1 = false → ws.length = 16 := fun h => gb0 (ib1 h).1
  have e0 := BA_eqv (if b0 = true then [] else wd ws 0) [116, 97, 103]
  refine xjoin1 (fun (c : Bool) As' => As' = [RdrI r ws (0 + 1) b1, Blk b tag0.cells] ∧ c = (!((if b0 = true then [] else wd ws 0) == tagWd) || b1)) (fun K hK => ?_) ?_
  · refine xif (fun h => hK _ _ ⟨rfl, ?_⟩) (fun h => ?_)
    · have h : (!((if b0 = true then [] else wd ws 0) == tagWd)) = true := by rw [show tagWd = [116, 97, 103] from rfl, ← e0]; exact h
      rw [h]; rfl
    · have h : (!((if b0 = true then [] else wd ws 0) == tagWd)) = false := by rw [show tagWd = [116, 97, 103] from rfl, ← e0]; exact h
      rw [h, Bool.false_or] at hK
      refine xrdr 0 fun sl rest hrest hc => ?_
      refine xnil (xget (h := ?_))
      refine xfold [Blk r [sl.v, .bool b1], RAr Cf.ST sl (rest.map BA)] (RdrI r ws (0 + 1) b1) (fun g hg => ⟨sl, rest, hrest, hc, hg⟩) (hK _ _ ⟨rfl, rfl⟩)
  rintro c As2 ⟨rfl, hc⟩
  have i2 : c = false → b0 = false ∧ wd ws 0 = tagWd := fun h => by
    rw [h] at hc
    have hc := Bool.or_eq_false_iff.1 hc.symm
    have h0 := (ib1 hc.2).1
    refine ⟨h0, ?_⟩
    have := hc.1
    rw [h0] at this
    simpa using this
  have j2 : b0 = false → wd ws 0 = tagWd → c = false := fun h1 h2 => by
    rw [hc, hb1, h1, h2]; rfl
  clear hc e0
  refine xrdr 0 fun sl rest hrest hcap => ?_
  refine xnil (xset (h := ?_))
  refine xfold [Blk r [sl.v, .bool c], RAr Cf.ST sl (rest.map BA)] (RdrI r ws (0 + 1) c) (fun g hg => ⟨sl, rest, fun h => hrest (by rw [hb1, (i2 h).1, (i2 h).2]; rfl), hcap, hg⟩) ?_
  have gc : c = false → ws.length = 16 := fun h => gb0 (i2 h).1
  refine xnext (0 + 1) c (fun h => by rw [gc h]; decide) fun c1 hc1 => ?_
  have ic1 : c1 = false → c = false ∧ (wd ws (0 + 1) == []) = false := fun h => by rw [hc1] at h; exact Bool.or_eq_false_iff.1 h
  have gc1 : c1 = false → ws.length = 16 := fun h => gc (ic1 h).1
  refine xnumber (0 + 1 + 1) c1 (fun h => by rw [gc1 h]; decide) (wd_len hm _) fun c2 u hc2 hvu => ?_
  have ic2 : c2 = false → c1 = false ∧ (numI (wd ws (0 + 1 + 1))).isNone = false := fun h => by rw [hc2] at h; exact Bool.or_eq_false_iff.1 h
  have gc2 : c2 = false → ws.length = 16 := fun h => gc1 (ic2 h).1
  refine xnew fun b1 => ?_
  iterate 19 (refine xset (h := ?_))
  refine xnext (0 + 1 + 1 + 1) c2 (fun h => by rw [gc2 h]; decide) fun c3 hc3 => ?_
  have ic3 : c3 = false → c2 = false ∧ (wd ws (0 + 1 + 1 + 1) == []) = false := fun h => by rw [hc3] at h; exact Bool.or_eq_false_iff.1 h
  have gc3 : c3 = false → ws.length = 16 := fun h => gc2 (ic3 h).1
  refine xcall0 (kindOf_spec (if c2 = true then [] else wd ws 3)) rdb ?_
  rintro ⟨kd, _⟩ _ ⟨hkd, rfl⟩
  obtain rfl : kd = kindV (if c2 = true then [] else wd ws 3) := hkd
  refine app0 (ca1 (xset (h := ?_)))
  refine xnumber (0 + 1 + 1 + 1 + 1) c3 (fun h => by rw [gc3 h]; decide) (wd_len hm _) fun c4 ad hc4 hvad => ?_
  have ic4 : c4 = false → c3 = false ∧ (numI (wd ws (0 + 1 + 1 + 1 + 1))).isNone = false := fun h => by rw [hc4] at h; exact Bool.or_eq_false_iff.1 h
  have gc4 : c4 = false → ws.length = 16 := fun h => gc3 (ic4 h).1
  refine xnumber (0 + 1 + 1 + 1 + 1 + 1) c4 (fun h => by rw [gc4 h]; decide) (wd_len hm _) fun c5 ev hc5 hvev => ?_
  have ic5 : c5 = false → c4 = false ∧ (numI (wd ws (0 + 1 + 1 + 1 + 1 + 1))).isNone = false := fun h => by rw [hc5] at h; exact Bool.or_eq_false_iff.1 h
  have gc5 : c5 = false → ws.length = 16 := fun h => gc4 (ic5 h).1
  iterate 2 (refine xset (h := ?_))
  refine xnext (0 + 1 + 1 + 1 + 1 + 1 + 1) c5 (fun h => by rw [gc5 h]; decide) fun c6 hc6 => ?_
  have ic6 : c6 = false → c5 = false ∧ (wd ws (0 + 1 + 1 + 1 + 1 + 1 + 1) == []) = false := fun h => by rw [hc6] at h; exact Bool.or_eq_false_iff.1 h
  have gc6 : c6 = false → ws.length = 16 := fun h => gc5 (ic6 h).1
  refine xnew fun b2 => xset (h := xget (h := ?_))
  generalize hf0 : (if c5 = true then [] else wd ws 6) = f0
  have hc6x := hc6
  have hc6 : f0 = [] → c6 = true := fun h => by
    rw [hc6]
    cases c5 with
    | true => rfl
    | false =>
      have hf0 : wd ws (0 + 1 + 1 + 1 + 1 + 1 + 1) = f0 := hf0
      rw [hf0, h]; rfl
  refine xuse [Blk b2 [.string (BA f0)], RdrI r ws (0 + 1 + 1 + 1 + 1 + 1 + 1 + 1) c6, Blk b1 [.string (BA (if c = true then [] else wd ws 1)), .int .i64 u, .int .i64 (kindV (if c2 = true then [] else wd ws 3)), .int .i64 ad, .int .i64 ev, .bool false, .bool false, .bool false, .int .i64 0, .int .i64 0, .int .i64 0, .int .i64 0, .int .i64 0, .bool false, .bool false, .bool false, .int .i64 0, .int .i64 0, .int .i64 0], Blk b tag0.cells] ?_
  refine xjoin0 (fun As' => As' = [Blk b2 [.string (BA (if f0 = [45] then [] else f0))], RdrI r ws (0 + 1 + 1 + 1 + 1 + 1 + 1 + 1) c6, Blk b1 [.string (BA (if c = true then [] else wd ws 1)), .int .i64 u, .int .i64 (kindV (if c2 = true then [] else wd ws 3)), .int .i64 ad, .int .i64 ev, .bool false, .bool false, .bool false, .int .i64 0, .int .i64 0, .int .i64 0, .int .i64 0, .int .i64 0, .bool false, .bool false, .bool false, .int .i64 0, .int .i64 0, .int .i64 0], Blk b tag0.cells]) (fun K hK => ?_) ?_
  · refine xif (fun h => xset (h := ?_)) (fun h => xget (h := ?_))
    · have h : f0 = [45] := eq_of_beq ((BA_eqv f0 [45]).symm.trans h)
      rw [if_pos h] at hK
      exact hK _ rfl
    · have h : ¬ f0 = [45] := beq_eq_false_iff_ne.1 ((BA_eqv f0 [45]).symm.trans h)
      rw [if_neg h] at hK
      refine xjoin (xif (fun h1 => ?_) (fun h1 => hK _ rfl))
      have h1 : f0 = [] := by
        rw [BA_toList, empty_list] at h1
        exact eq_of_beq h1
      have ht := hc6 h1
      refine xrdr 1 fun sl rest hrest hcap => ?_
      refine xnil (xset (h := ?_))
      rw [ht] at hK
      refine xfold [Blk r [sl.v, .bool true], RAr Cf.ST sl (rest.map BA)] (RdrI r ws (0 + 1 + 1 + 1 + 1 + 1 + 1 + 1) true) (fun g hg => ⟨sl, rest, fun h => (by cases h), hcap, hg⟩) ?_
      exact xuse [Blk b2 [.string (BA f0)], RdrI r ws (0 + 1 + 1 + 1 + 1 + 1 + 1 + 1) true, Blk b1 [.string (BA (if c = true then [] else wd ws 1)), .int .i64 u, .int .i64 (kindV (if c2 = true then [] else wd ws 3)), .int .i64 ad, .int .i64 ev, .bool false, .bool false, .bool false, .int .i64 0, .int .i64 0, .int .i64 0, .int .i64 0, .int .i64 0, .bool false, .bool false, .bool false, .int .i64 0, .int .i64 0, .int .i64 0], Blk b tag0.cells] (hK _ rfl)
  rintro As2 rfl
  generalize hf1 : (if f0 = [45] then [] else f0) = f1
  refine xcl (flag_spec b2 f1 119) rdb ?_
  rintro ⟨w1, _⟩ _ ⟨hw1, rfl⟩
  obtain rfl : w1 = offB 119 f1 := hw1
  refine app1 (ca1 ?_)
  refine xcl (flag_spec b2 (offL 119 f1) 115) rdb ?_
  rintro ⟨w2, _⟩ _ ⟨hw2, rfl⟩
  obtain rfl : w2 = offB 115 (offL 119 f1) := hw2
  refine app1 (ca1 ?_)
  refine xcl (flag_spec b2 (offL 115 (offL 119 f1)) 120) rdb ?_
  rintro ⟨w3, _⟩ _ ⟨hw3, rfl⟩
  obtain rfl : w3 = offB 120 (offL 115 (offL 119 f1)) := hw3
  refine app1 (ca1 ?_)
  iterate 3 (refine xset (h := ?_))
  refine xnumber (0 + 1 + 1 + 1 + 1 + 1 + 1 + 1) c6 (fun h => by rw [gc6 h]; decide) (wd_len hm _) fun c7 mu hc7 hvmu => ?_
  have ic7 : c7 = false → c6 = false ∧ (numI (wd ws (0 + 1 + 1 + 1 + 1 + 1 + 1 + 1))).isNone = false := fun h => by rw [hc7] at h; exact Bool.or_eq_false_iff.1 h
  have gc7 : c7 = false → ws.length = 16 := fun h => gc6 (ic7 h).1
  refine xnumber (0 + 1 + 1 + 1 + 1 + 1 + 1 + 1 + 1) c7 (fun h => by rw [gc7 h]; decide) (wd_len hm _) fun c8 di hc8 hvdi => ?_
  have ic8 : c8 = false → c7 = false ∧ (numI (wd ws (0 + 1 + 1 + 1 + 1 + 1 + 1 + 1 + 1))).isNone = false := fun h => by rw [hc8] at h; exact Bool.or_eq_false_iff.1 h
  have gc8 : c8 = false → ws.length = 16 := fun h => gc7 (ic8 h).1
  refine xnumber (0 + 1 + 1 + 1 + 1 + 1 + 1 + 1 + 1 + 1) c8 (fun h => by rw [gc8 h]; decide) (wd_len hm _) fun c9 az hc9 hvaz => ?_
  have ic9 : c9 = false → c8 = false ∧ (numI (wd ws (0 + 1 + 1 + 1 + 1 + 1 + 1 + 1 + 1 + 1))).isNone = false := fun h => by rw [hc9] at h; exact Bool.or_eq_false_iff.1 h
  have gc9 : c9 = false → ws.length = 16 := fun h => gc8 (ic9 h).1
  iterate 3 (refine xset (h := ?_))
  refine xnumber (0 + 1 + 1 + 1 + 1 + 1 + 1 + 1 + 1 + 1 + 1) c9 (fun h => by rw [gc9 h]; decide) (wd_len hm _) fun c10 de hc10 hvde => ?_
  have ic10 : c10 = false → c9 = false ∧ (numI (wd ws (0 + 1 + 1 + 1 + 1 + 1 + 1 + 1 + 1 + 1 + 1))).isNone = false := fun h => by rw [hc10] at h; exact Bool.or_eq_false_iff.1 h
  have gc10 : c10 = false → ws.length = 16 := fun h => gc9 (ic10 h).1
  refine xnumber (0 + 1 + 1 + 1 + 1 + 1 + 1 + 1 + 1 + 1 + 1 + 1) c10 (fun h => by rw [gc10 h]; decide) (wd_len hm _) fun c11 qu hc11 hvqu => ?_
  have ic11 : c11 = false → c10 = false ∧ (numI (wd ws (0 + 1 + 1 + 1 + 1 + 1 + 1 + 1 + 1 + 1 + 1 + 1))).isNone = false := fun h => by rw [hc11] at h; exact Bool.or_eq_false_iff.1 h
  have gc11 : c11 = false → ws.length = 16 := fun h => gc10 (ic11 h).1
  iterate 2 (refine xset (h := ?_))
  refine xbound27 (0 + 1 + 1 + 1 + 1 + 1 + 1 + 1 + 1 + 1 + 1 + 1 + 1) c11 (fun h => by rw [gc11 h]; decide) (wd_len hm _) fun c12 lo ul hc12 hvlo => ?_
  have ic12 : c12 = false → c11 = false ∧ (boundV (wd ws (0 + 1 + 1 + 1 + 1 + 1 + 1 + 1 + 1 + 1 + 1 + 1 + 1))).isNone = false := fun h => by rw [hc12] at h; exact Bool.or_eq_false_iff.1 h
  have gc12 : c12 = false → ws.length = 16 := fun h => gc11 (ic12 h).1
  iterate 2 (refine xset (h := ?_))
  refine xbound27 (0 + 1 + 1 + 1 + 1 + 1 + 1 + 1 + 1 + 1 + 1 + 1 + 1 + 1) c12 (fun h => by rw [gc12 h]; decide) (wd_len hm _) fun c13 hi uh hc13 hvhi => ?_
  have ic13 : c13 = false → c12 = false ∧ (boundV (wd ws (0 + 1 + 1 + 1 + 1 + 1 + 1 + 1 + 1 + 1 + 1 + 1 + 1 + 1))).isNone = false := fun h => by rw [hc13] at h; exact Bool.or_eq_false_iff.1 h
  have gc13 : c13 = false → ws.length = 16 := fun h => gc12 (ic13 h).1
  iterate 2 (refine xset (h := ?_))
  refine xnumber (0 + 1 + 1 + 1 + 1 + 1 + 1 + 1 + 1 + 1 + 1 + 1 + 1 + 1 + 1) c13 (fun h => by rw [gc13 h]; decide) (wd_len hm _) fun c14 hy hc14 hvhy => ?_
  have ic14 : c14 = false → c13 = false ∧ (numI (wd ws (0 + 1 + 1 + 1 + 1 + 1 + 1 + 1 + 1 + 1 + 1 + 1 + 1 + 1 + 1))).isNone = false := fun h => by rw [hc14] at h; exact Bool.or_eq_false_iff.1 h
  have gc14 : c14 = false → ws.length = 16 := fun h => gc13 (ic14 h).1
  refine xset (h := ?_)
  refine xnext (0 + 1 + 1 + 1 + 1 + 1 + 1 + 1 + 1 + 1 + 1 + 1 + 1 + 1 + 1 + 1) c14 (fun h => by rw [gc14 h]; decide) fun c15 hc15 => ?_
  have ic15 : c15 = false → c14 = false ∧ (wd ws (0 + 1 + 1 + 1 + 1 + 1 + 1 + 1 + 1 + 1 + 1 + 1 + 1 + 1 + 1 + 1) == []) = false := fun h => by rw [hc15] at h; exact Bool.or_eq_false_iff.1 h
  have gc15 : c15 = false → ws.length = 16 := fun h => gc14 (ic15 h).1
  refine xset (h := ?_)
  refine xdraw ?_
  have eL := BA_eqv (if c14 = true then [] else wd ws 15) [108, 97, 116, 99, 104]
  have eD := BA_eqv (if c14 = true then [] else wd ws 15) [45]
  generalize hla : (if c14 = true then [] else wd ws 15) = la at eL eD
  have hL : ((BA la).toList == (⟨#[108, 97, 116, 99, 104]⟩ : ByteArray).toList) = (la == latchWd) := eL
  have hD : ((BA la).toList == (⟨#[45]⟩ : ByteArray).toList) = (la == [45]) := eD
  rw [hL]
  generalize hf4 : offL 120 (offL 115 (offL 119 f1)) = f4
  obtain ⟨T, hT⟩ : ∃ T : Tag, T = ⟨BA (if c = true then [] else wd ws 1), u, kindV (if c2 = true then [] else wd ws 3), ad, ev, offB 119 f1, offB 115 (offL 119 f1), offB 120 (offL 115 (offL 119 f1)), mu, di, az, de, qu, ul, uh, la == latchWd, lo, hi, hy⟩ := ⟨_, rfl⟩
  refine xuse [RdrI r ws (0 + 1 + 1 + 1 + 1 + 1 + 1 + 1 + 1 + 1 + 1 + 1 + 1 + 1 + 1 + 1 + 1) c15, Blk b2 [.string (BA f4)], Blk b1 [.string (BA (if c = true then [] else wd ws 1)), .int .i64 u, .int .i64 (kindV (if c2 = true then [] else wd ws 3)), .int .i64 ad, .int .i64 ev, .bool (offB 119 f1), .bool (offB 115 (offL 119 f1)), .bool (offB 120 (offL 115 (offL 119 f1))), .int .i64 mu, .int .i64 di, .int .i64 az, .int .i64 de, .int .i64 qu, .bool ul, .bool uh, .bool (la == latchWd), .int .i64 lo, .int .i64 hi, .int .i64 hy], Blk b tag0.cells] ?_
  refine xfold1 (Q := Blk b1 T.cells) 2 (fun g hg => by rw [hT]; exact hg) ?_
  refine xjoin1 (fun (ok : Bool) As' => As' = [RdrI r ws (0 + 1 + 1 + 1 + 1 + 1 + 1 + 1 + 1 + 1 + 1 + 1 + 1 + 1 + 1 + 1 + 1) c15, Blk b2 [.string (BA f4)], Blk b1 T.cells, Blk b T.cells] ∧ ok = (!c15 && (f4 == []) && decide (T.kind > 0) && (la == latchWd || la == [45]))) (fun K hK => ?_) ?_
  · iterate 19 (refine xget (h := ?_))
    refine xfold1 (Q := Blk b [.string ByteArray.empty, .int .i64 0, .int .i64 0, .int .i64 0, .int .i64 0, .bool false, .bool false, .bool false, .int .i64 0, .int .i64 0, .int .i64 0, .int .i64 0, .int .i64 0, .bool false, .bool false, .bool false, .int .i64 0, .int .i64 0, .int .i64 0]) 3 (fun g hg => hg) ?_
    refine xrdr 2 fun sl rest hrest hcap => ?_
    refine xnil (xget (h := ?_))
    have e4 : ((BA f4).toList == ByteArray.empty.toList) = (f4 == []) := by rw [BA_toList, empty_list]
    refine xif (fun h => xget (h := ?_)) (fun h => xiff rfl (xiff rfl ?_))
    · have h : c15 = false := by simpa using h
      rw [e4]
      refine xif (fun h1 => xget (h := xif (fun h2 => xif (fun h3 => ?_) (fun h3 => ?_)) (fun h2 => ?_))) (fun h1 => xiff rfl ?_)
      ·
        iterate 19 (refine xset (h := ?_))
        refine xuse [Blk b [.string T.name, .int .i64 T.unit, .int .i64 T.kind, .int .i64 T.addr, .int .i64 T.every, .bool T.wide, .bool T.sgn, .bool T.swap, .int .i64 T.mul, .int .i64 T.div, .int .i64 T.add, .int .i64 T.dead, .int .i64 T.quiet, .bool T.ulow, .bool T.uhigh, .bool T.latch, .int .i64 T.low, .int .i64 T.high, .int .i64 T.hyst], Blk r [sl.v, .bool c15], RAr Cf.ST sl (rest.map BA), Blk b2 [.string (BA f4)], Blk b1 T.cells] ?_
        refine xfold1 (Q := Blk b T.cells) 0 (fun g hg => hg) ?_
        refine xfold [Blk r [sl.v, .bool c15], RAr Cf.ST sl (rest.map BA)] (RdrI r ws (0 + 1 + 1 + 1 + 1 + 1 + 1 + 1 + 1 + 1 + 1 + 1 + 1 + 1 + 1 + 1 + 1) c15) (fun g hg => ⟨sl, rest, hrest, hcap, hg⟩) ?_
        refine xuse [RdrI r ws (0 + 1 + 1 + 1 + 1 + 1 + 1 + 1 + 1 + 1 + 1 + 1 + 1 + 1 + 1 + 1 + 1) c15, Blk b2 [.string (BA f4)], Blk b1 T.cells, Blk b T.cells] (hK _ _ ⟨rfl, ?_⟩)
        rw [h, h1, h2, h3]; rfl
      ·
        iterate 19 (refine xset (h := ?_))
        refine xuse [Blk b [.string T.name, .int .i64 T.unit, .int .i64 T.kind, .int .i64 T.addr, .int .i64 T.every, .bool T.wide, .bool T.sgn, .bool T.swap, .int .i64 T.mul, .int .i64 T.div, .int .i64 T.add, .int .i64 T.dead, .int .i64 T.quiet, .bool T.ulow, .bool T.uhigh, .bool T.latch, .int .i64 T.low, .int .i64 T.high, .int .i64 T.hyst], Blk r [sl.v, .bool c15], RAr Cf.ST sl (rest.map BA), Blk b2 [.string (BA f4)], Blk b1 T.cells] ?_
        refine xfold1 (Q := Blk b T.cells) 0 (fun g hg => hg) ?_
        refine xfold [Blk r [sl.v, .bool c15], RAr Cf.ST sl (rest.map BA)] (RdrI r ws (0 + 1 + 1 + 1 + 1 + 1 + 1 + 1 + 1 + 1 + 1 + 1 + 1 + 1 + 1 + 1 + 1) c15) (fun g hg => ⟨sl, rest, hrest, hcap, hg⟩) ?_
        refine xuse [RdrI r ws (0 + 1 + 1 + 1 + 1 + 1 + 1 + 1 + 1 + 1 + 1 + 1 + 1 + 1 + 1 + 1 + 1) c15, Blk b2 [.string (BA f4)], Blk b1 T.cells, Blk b T.cells] (hK _ _ ⟨rfl, ?_⟩)
        rw [h, h1, h2, h3]
        exact hD
      ·
        iterate 19 (refine xset (h := ?_))
        refine xuse [Blk b [.string T.name, .int .i64 T.unit, .int .i64 T.kind, .int .i64 T.addr, .int .i64 T.every, .bool T.wide, .bool T.sgn, .bool T.swap, .int .i64 T.mul, .int .i64 T.div, .int .i64 T.add, .int .i64 T.dead, .int .i64 T.quiet, .bool T.ulow, .bool T.uhigh, .bool T.latch, .int .i64 T.low, .int .i64 T.high, .int .i64 T.hyst], Blk r [sl.v, .bool c15], RAr Cf.ST sl (rest.map BA), Blk b2 [.string (BA f4)], Blk b1 T.cells] ?_
        refine xfold1 (Q := Blk b T.cells) 0 (fun g hg => hg) ?_
        refine xfold [Blk r [sl.v, .bool c15], RAr Cf.ST sl (rest.map BA)] (RdrI r ws (0 + 1 + 1 + 1 + 1 + 1 + 1 + 1 + 1 + 1 + 1 + 1 + 1 + 1 + 1 + 1 + 1) c15) (fun g hg => ⟨sl, rest, hrest, hcap, hg⟩) ?_
        refine xuse [RdrI r ws (0 + 1 + 1 + 1 + 1 + 1 + 1 + 1 + 1 + 1 + 1 + 1 + 1 + 1 + 1 + 1 + 1) c15, Blk b2 [.string (BA f4)], Blk b1 T.cells, Blk b T.cells] (hK _ _ ⟨rfl, ?_⟩)
        rw [h, h1, h2]; rfl
      ·
        iterate 19 (refine xset (h := ?_))
        refine xuse [Blk b [.string T.name, .int .i64 T.unit, .int .i64 T.kind, .int .i64 T.addr, .int .i64 T.every, .bool T.wide, .bool T.sgn, .bool T.swap, .int .i64 T.mul, .int .i64 T.div, .int .i64 T.add, .int .i64 T.dead, .int .i64 T.quiet, .bool T.ulow, .bool T.uhigh, .bool T.latch, .int .i64 T.low, .int .i64 T.high, .int .i64 T.hyst], Blk r [sl.v, .bool c15], RAr Cf.ST sl (rest.map BA), Blk b2 [.string (BA f4)], Blk b1 T.cells] ?_
        refine xfold1 (Q := Blk b T.cells) 0 (fun g hg => hg) ?_
        refine xfold [Blk r [sl.v, .bool c15], RAr Cf.ST sl (rest.map BA)] (RdrI r ws (0 + 1 + 1 + 1 + 1 + 1 + 1 + 1 + 1 + 1 + 1 + 1 + 1 + 1 + 1 + 1 + 1) c15) (fun g hg => ⟨sl, rest, hrest, hcap, hg⟩) ?_
        refine xuse [RdrI r ws (0 + 1 + 1 + 1 + 1 + 1 + 1 + 1 + 1 + 1 + 1 + 1 + 1 + 1 + 1 + 1 + 1) c15, Blk b2 [.string (BA f4)], Blk b1 T.cells, Blk b T.cells] (hK _ _ ⟨rfl, ?_⟩)
        rw [h, h1]; rfl
    · have h : c15 = true := by simpa using h
      iterate 19 (refine xset (h := ?_))
      refine xuse [Blk b [.string T.name, .int .i64 T.unit, .int .i64 T.kind, .int .i64 T.addr, .int .i64 T.every, .bool T.wide, .bool T.sgn, .bool T.swap, .int .i64 T.mul, .int .i64 T.div, .int .i64 T.add, .int .i64 T.dead, .int .i64 T.quiet, .bool T.ulow, .bool T.uhigh, .bool T.latch, .int .i64 T.low, .int .i64 T.high, .int .i64 T.hyst], Blk r [sl.v, .bool c15], RAr Cf.ST sl (rest.map BA), Blk b2 [.string (BA f4)], Blk b1 T.cells] ?_
      refine xfold1 (Q := Blk b T.cells) 0 (fun g hg => hg) ?_
      refine xfold [Blk r [sl.v, .bool c15], RAr Cf.ST sl (rest.map BA)] (RdrI r ws (0 + 1 + 1 + 1 + 1 + 1 + 1 + 1 + 1 + 1 + 1 + 1 + 1 + 1 + 1 + 1 + 1) c15) (fun g hg => ⟨sl, rest, hrest, hcap, hg⟩) ?_
      refine xuse [RdrI r ws (0 + 1 + 1 + 1 + 1 + 1 + 1 + 1 + 1 + 1 + 1 + 1 + 1 + 1 + 1 + 1 + 1) c15, Blk b2 [.string (BA f4)], Blk b1 T.cells, Blk b T.cells] (hK _ _ ⟨rfl, ?_⟩)
      rw [h]; rfl
  rintro ok As2 ⟨rfl, hok⟩
  iterate 19 (refine xget (h := ?_))
  have key : ok = true → tagM ws = some T := fun h => by
    rw [hok] at h
    simp only [Bool.and_eq_true, Bool.not_eq_true', Bool.or_eq_true, decide_eq_true_eq, beq_iff_eq] at h
    obtain ⟨⟨⟨k15, k4⟩, kk⟩, kl⟩ := h
    obtain ⟨k14, n15⟩ := ic15 k15
    obtain ⟨k13, n14⟩ := ic14 k14
    obtain ⟨k12, n13⟩ := ic13 k13
    obtain ⟨k11, n12⟩ := ic12 k12
    obtain ⟨k10, n11⟩ := ic11 k11
    obtain ⟨k9, n10⟩ := ic10 k10
    obtain ⟨k8, n9⟩ := ic9 k9
    obtain ⟨k7, n8⟩ := ic8 k8
    obtain ⟨k6, n7⟩ := ic7 k7
    obtain ⟨k5, n6⟩ := ic6 k6
    obtain ⟨k4', n5⟩ := ic5 k5
    obtain ⟨k3, n4⟩ := ic4 k4'
    obtain ⟨k2, n3⟩ := ic3 k3
    obtain ⟨k1, n2⟩ := ic2 k2
    obtain ⟨kc, n1⟩ := ic1 k1
    have isN : ∀ {w : List UInt8} {v : Int}, (numI w).isNone = false → (∀ x, numI w = some x → v = x) → numI w = some v := fun {w v} h1 h2 => by
      cases e : numI w with
      | none => rw [e] at h1; cases h1
      | some y => rw [h2 y e]
    have isB : ∀ {w : List UInt8} {v : Int} {u : Bool}, (boundV w).isNone = false → (∀ x, boundV w = some x → v = x.1 ∧ u = x.2) → boundV w = some (v, u) := fun {w v u} h1 h2 => by
      cases e : boundV w with
      | none => rw [e] at h1; cases h1
      | some y => rw [(h2 y e).1, (h2 y e).2]
    rw [k14] at hla
    rw [k5] at hf0
    rw [k2] at hT
    rw [kc] at hT
    simp only [Bool.false_eq_true, if_false] at hla hf0 hT
    have hf0 : wd ws 6 = f0 := hf0
    have hla : wd ws 15 = la := hla
    have hfl : flagV (wd ws 6) = some (offB 119 f1, offB 115 (offL 119 f1), offB 120 (offL 115 (offL 119 f1))) := by
      have hne : ¬ wd ws 6 = [] := fun e => by
        have n6 : (wd ws 6 == []) = false := n6
        rw [e] at n6; cases n6
      unfold flagV
      rw [if_neg hne, hf0, hf1]
      simp only
      rw [hf4, if_pos k4]
    rw [hT] at kk ⊢
    refine tagM_some.2 ⟨⟨gc kc, (i2 kc).2, ?_, kk, ?_⟩, isN n2 (hvu k1), isN n4 (hvad k3), isN n5 (hvev k4'), hfl, isN n7 (hvmu k6), isN n8 (hvdi k7), isN n9 (hvaz k8), isN n10 (hvde k9), isN n11 (hvqu k10), isB n12 (hvlo k11), isB n13 (hvhi k12), isN n14 (hvhy k13), rfl, rfl, ?_⟩
    · intro e
      have n1 : (wd ws 1 == []) = false := n1
      rw [e] at n1; cases n1
    · rw [hla]; exact kl
    · rw [hla]
  have back : ∀ t, tagM ws = some t → ok = true := fun t h => by
    obtain ⟨⟨q0, q1, q2, q3, q4⟩, a1, a2, a3, a4, a5, a6, a7, a8, a9, a10, a11, a12, a13, a14, a15⟩ := tagM_some.1 h
    have kb0 : b0 = false := by rw [← hb0, q0]; rfl
    have kc : c = false := j2 kb0 q1
    have k1 : c1 = false := by rw [hc1, kc, Bool.false_or]; exact beq_eq_false_iff_ne.2 q2
    have k2 : c2 = false := by rw [hc2, k1, show wd ws (0 + 1 + 1) = wd ws 2 from rfl, a1]; rfl
    have hne : ∀ {w : List UInt8}, (∃ v, numI w = some v) → (w == []) = false := fun {w} ⟨v, hv⟩ => by
      cases w with
      | nil => cases hv
      | cons _ _ => rfl
    have k3 : c3 = false := by
      rw [hc3, k2, Bool.false_or]
      refine beq_eq_false_iff_ne.2 fun e => ?_
      have e : wd ws 3 = [] := e
      rw [e] at q3; exact absurd q3 (by decide)
    have k4 : c4 = false := by rw [hc4, k3, show wd ws (0 + 1 + 1 + 1 + 1) = wd ws 4 from rfl, a2]; rfl
    have k5 : c5 = false := by rw [hc5, k4, show wd ws (0 + 1 + 1 + 1 + 1 + 1) = wd ws 5 from rfl, a3]; rfl
    have hne6 : ¬ wd ws 6 = [] := fun e => by rw [e] at a4; cases a4
    have k6 : c6 = false := by rw [hc6x, k5, Bool.false_or]; exact beq_eq_false_iff_ne.2 hne6
    have k7 : c7 = false := by rw [hc7, k6, show wd ws (0 + 1 + 1 + 1 + 1 + 1 + 1 + 1) = wd ws 7 from rfl, a5]; rfl
    have k8 : c8 = false := by rw [hc8, k7, show wd ws (0 + 1 + 1 + 1 + 1 + 1 + 1 + 1 + 1) = wd ws 8 from rfl, a6]; rfl
    have k9 : c9 = false := by rw [hc9, k8, show wd ws (0 + 1 + 1 + 1 + 1 + 1 + 1 + 1 + 1 + 1) = wd ws 9 from rfl, a7]; rfl
    have k10 : c10 = false := by rw [hc10, k9, show wd ws (0 + 1 + 1 + 1 + 1 + 1 + 1 + 1 + 1 + 1 + 1) = wd ws 10 from rfl, a8]; rfl
    have k11 : c11 = false := by rw [hc11, k10, show wd ws (0 + 1 + 1 + 1 + 1 + 1 + 1 + 1 + 1 + 1 + 1 + 1) = wd ws 11 from rfl, a9]; rfl
    have k12 : c12 = false := by rw [hc12, k11, show wd ws (0 + 1 + 1 + 1 + 1 + 1 + 1 + 1 + 1 + 1 + 1 + 1 + 1) = wd ws 12 from rfl, a10]; rfl
    have k13 : c13 = false := by rw [hc13, k12, show wd ws (0 + 1 + 1 + 1 + 1 + 1 + 1 + 1 + 1 + 1 + 1 + 1 + 1 + 1) = wd ws 13 from rfl, a11]; rfl
    have k14 : c14 = false := by rw [hc14, k13, show wd ws (0 + 1 + 1 + 1 + 1 + 1 + 1 + 1 + 1 + 1 + 1 + 1 + 1 + 1 + 1) = wd ws 14 from rfl, a12]; rfl
    have k15 : c15 = false := by
      rw [hc15, k14, Bool.false_or]
      refine beq_eq_false_iff_ne.2 fun e => ?_
      have e : wd ws 15 = [] := e
      rw [e] at q4
      rcases q4 with q4 | q4 <;> cases q4
    rw [k14] at hla
    rw [k5] at hf0
    rw [k2] at hT
    simp only [Bool.false_eq_true, if_false] at hla hf0 hT
    have hf0 : wd ws 6 = f0 := hf0
    have hla : wd ws 15 = la := hla
    have hf4' : f4 = [] := by
      unfold flagV at a4
      rw [if_neg hne6, hf0, hf1] at a4
      simp only at a4
      rw [hf4] at a4
      split at a4
      · rename_i e; exact e
      · cases a4
    have hkk : T.kind > 0 := by rw [hT]; exact q3
    rw [hok, k15, hf4', decide_eq_true hkk, ← hla]
    rcases q4 with q4 | q4 <;> rw [q4] <;> rfl
  refine xkeep (l := []) (xret ⟨?_, fun t ht => ?_, rfl⟩)
  · cases hk : ok with
    | true => rw [key hk]; rfl
    | false =>
      cases e : tagM ws with
      | none => rfl
      | some t => rw [back t e] at hk; cases hk
  · have hk := back t ht
    rw [key hk] at ht
    obtain rfl := Option.some.inj ht
    rw [hk]

end Go.Cx
