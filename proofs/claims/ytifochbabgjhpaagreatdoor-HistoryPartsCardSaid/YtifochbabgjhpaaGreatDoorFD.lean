/-
  What each function of this seat does, as a formula; held against the translation by the kernel.
-/
import Derived.Test.YtifochbabgjhpaaGreatDoorH
namespace Go.Cx
open Go Go.Cf
set_option maxRecDepth 100000
set_option linter.unusedVariables false

noncomputable def kit_KeptWords (lent : Sl) (l : Sl) (R : Bool → WP) : WP := XCall Pr F_kit_SameWords [lent.v, l.v] .one [.bool] <| fun (c : Bool) => XJoin [.bool] (fun (K' : Bool → WP) => XIf (!c) (K' true) (K' (decide (((lent.c : Int)) < (IntKind.i64.wrap (((l.n : Int)) + 5)))))) fun (c1 : Bool) => XIf c1 (R false) (XSlc lent 0 (IntKind.i64.wrap (((l.n : Int)) + 5)) lent.c 1 fun s => XLoop [.int .i64] (fun (K'1 : Int → WP) (i : Int) => XIf (decide (i < ((s.n : Int)))) (XIdx s.p s.n i 1 fun a => XGet (.int .u16) a fun (n : Int) => XIf (n != 42330) (R false) (K'1 (IntKind.i64.wrap (i + 1)))) (R true)) ((l.n : Int)))
theorem c_kit_KeptWords {lent : Sl} {l : Sl} {R : Bool → WP} {wd : World} (h : kit_KeptWords lent l R wd) : XCall Pr F_kit_KeptWords [lent.v, l.v] .one [.bool] R wd :=
  xcall_of nogor mixed (f := F_kit_KeptWords) (fn := Go.Proofs.Tryz.f78) (dp := [4]) rfl (by kernel_rfl) (by
    have e : wpF Pr [4] (wpDr Pr Go.Proofs.Tryz.f78) Go.Proofs.Tryz.f78 [lent.v, l.v] [.bool] R = kit_KeptWords lent l R := by kernel_rfl
    rw [e]; exact h)

noncomputable def kit_KeptParts (lent : Sl) (l : Sl) (R : Bool → WP) : WP := XCall Pr F_kit_SameParts [lent.v, l.v] .one [.bool] <| fun (c : Bool) => XJoin [.bool] (fun (K' : Bool → WP) => XIf (!c) (K' true) (K' (decide (((lent.c : Int)) < (IntKind.i64.wrap (((l.n : Int)) + 5)))))) fun (c1 : Bool) => XIf c1 (R false) (XSlc lent 0 (IntKind.i64.wrap (((l.n : Int)) + 5)) lent.c 3 fun s => XLoop [.int .i64] (fun (K'1 : Int → WP) (i : Int) => XIf (decide (i < ((s.n : Int)))) (XIdx s.p s.n i 3 fun a => XGet (.int .i64) a fun (n : Int) => XGet (.int .i64) (a.add 1) fun (n1 : Int) => XGet (.int .i64) (a.add 2) fun (n2 : Int) => XIf (!((n == (-77)) && ((n1 == 0) && ((n2 == 0) && true)))) (R false) (K'1 (IntKind.i64.wrap (i + 1)))) (R true)) ((l.n : Int)))
theorem c_kit_KeptParts {lent : Sl} {l : Sl} {R : Bool → WP} {wd : World} (h : kit_KeptParts lent l R wd) : XCall Pr F_kit_KeptParts [lent.v, l.v] .one [.bool] R wd :=
  xcall_of nogor mixed (f := F_kit_KeptParts) (fn := Go.Proofs.Tryz.f79) (dp := [4]) rfl (by kernel_rfl) (by
    have e : wpF Pr [4] (wpDr Pr Go.Proofs.Tryz.f79) Go.Proofs.Tryz.f79 [lent.v, l.v] [.bool] R = kit_KeptParts lent l R := by kernel_rfl
    rw [e]; exact h)

noncomputable def kit_SpoilBools (l : Sl) (R : WP) : WP := XSlc l 0 ((l.c : Int)) l.c 1 fun s => XLoop [.int .i64] (fun (K' : Int → WP) (i : Int) => XIf (decide (i < ((s.n : Int)))) (XIdx s.p s.n i 1 fun a => XGet .bool a fun (c : Bool) => XIdx s.p s.n i 1 fun a1 => XSet a1 (.bool (!c)) <| K' (IntKind.i64.wrap (i + 1))) (R)) 0
theorem c_kit_SpoilBools {l : Sl} {R : WP} {wd : World} (h : kit_SpoilBools l R wd) : XCall Pr F_kit_SpoilBools [l.v] (.tup []) [] R wd :=
  xcall_of nogor mixed (f := F_kit_SpoilBools) (fn := Go.Proofs.Tryz.f80) (dp := []) rfl (by kernel_rfl) (by
    have e : wpF Pr [] (wpDr Pr Go.Proofs.Tryz.f80) Go.Proofs.Tryz.f80 [l.v] [] R = kit_SpoilBools l R := by kernel_rfl
    rw [e]; exact h)

noncomputable def record_Put (r0 : Int) (r1 : Int) (r2 : ByteArray) (r3 : Int) (r4 : Int) (R : Sl → Int → WP) : WP := XNew [.int .i64 r0, .int .i64 r1, .string r2, .int .i64 r3, .int .i64 r4] T_api_Record fun b => XGet (.int .i64) ⟨b, 0, none⟩ fun (n : Int) => XGet (.int .i64) ⟨b, 1, none⟩ fun (n1 : Int) => XGet .str ⟨b, 2, none⟩ fun (t : ByteArray) => XGet (.int .i64) ⟨b, 3, none⟩ fun (n2 : Int) => XGet (.int .i64) ⟨b, 4, none⟩ fun (n3 : Int) => XCall Pr F_record_Check [.agg #[.int .i64 n, .int .i64 n1, .string t, .int .i64 n2, .int .i64 n3]] .one [.int .i64] <| fun (r : Int) => XIf (r != 0) (R ⟨none, 0, 0⟩ r) (XGet (.int .i64) ⟨b, 0, none⟩ fun (n4 : Int) => XNew [.int .u8 (IntKind.u8.wrap (n4))] T_uint8 fun b1 => XGet (.int .i64) ⟨b, 1, none⟩ fun (n5 : Int) => XNew [.int .i64 n5] T_int fun b2 => XCall Pr F_record_eight [.slice ((some ⟨b1, 0, none⟩)) 1 1, .slice ((some ⟨b2, 0, none⟩)) 1 1] .one [.slice] <| fun s => XGet (.int .i64) ⟨b, 0, none⟩ fun (n6 : Int) => XJoin [.bool] (fun (K' : Bool → WP) => XIf (n6 == 1) (K' (n6 == 1)) (K' (n6 == 2))) <| fun (x : Bool) => XIf x (XDraw <| XGet .str ⟨b, 2, none⟩ fun (t1 : ByteArray) => XGet .str ⟨b, 2, none⟩ fun (t2 : ByteArray) => XNew [.int .u8 (IntKind.u8.wrap ((t1.size : Int)))] T_uint8 fun b3 => XApp Pr T_L_uint8 T_L_uint8 T_L_uint8 (s.v) (.slice ((some ⟨b3, 0, none⟩)) 1 1) fun s1 => XChk ⟨b, 2, none⟩ (.string t2) <| XApp Pr T_L_uint8 T_string T_L_uint8 (s1.v) (.string t2) fun s2 => XGet (.int .i64) ⟨b, 3, none⟩ fun (n7 : Int) => XNew [.int .i64 n7] T_int fun b4 => XCall Pr F_record_eight [s2.v, .slice ((some ⟨b4, 0, none⟩)) 1 1] .one [.slice] <| fun s3 => R s3 0) (XIf (n6 == 5) (XGet (.int .i64) ⟨b, 4, none⟩ fun (n8 : Int) => XNew [.int .i64 n8] T_int fun b5 => XCall Pr F_record_eight [s.v, .slice ((some ⟨b5, 0, none⟩)) 1 1] .one [.slice] <| fun s4 => R s4 0) (XIf (n6 == 6) (XGet (.int .i64) ⟨b, 4, none⟩ fun (n9 : Int) => XGet (.int .i64) ⟨b, 3, none⟩ fun (n10 : Int) => XNew [.int .i64 n9, .int .i64 n10] T_int fun b6 => XCall Pr F_record_eight [s.v, .slice ((some ⟨b6, 0, none⟩)) 2 2] .one [.slice] <| fun s5 => R s5 0) (XGet (.int .i64) ⟨b, 3, none⟩ fun (n11 : Int) => XNew [.int .i64 n11] T_int fun b7 => XCall Pr F_record_eight [s.v, .slice ((some ⟨b7, 0, none⟩)) 1 1] .one [.slice] <| fun s6 => R s6 0))))
theorem c_record_Put {r0 : Int} {r1 : Int} {r2 : ByteArray} {r3 : Int} {r4 : Int} {R : Sl → Int → WP} {wd : World} (h : record_Put r0 r1 r2 r3 r4 R wd) : XCall Pr F_record_Put [.agg #[.int .i64 r0, .int .i64 r1, .string r2, .int .i64 r3, .int .i64 r4]] (.tup [none, none]) [.slice, .int .i64] R wd :=
  xcall_of nogor mixed (f := F_record_Put) (fn := Go.Proofs.Tryz.f81) (dp := [2, 3]) rfl (by kernel_rfl) (by
    have e : wpF Pr [2, 3] (wpDr Pr Go.Proofs.Tryz.f81) Go.Proofs.Tryz.f81 [.agg #[.int .i64 r0, .int .i64 r1, .string r2, .int .i64 r3, .int .i64 r4]] [.slice, .int .i64] R = record_Put r0 r1 r2 r3 r4 R := by kernel_rfl
    rw [e]; exact h)

noncomputable def kit_Row (n : Int) (R : Sl → WP) : WP := XMake Pr T_L_uint8 (.int .i64 (if n > 0 then n else 0)) (.int .i64 (if n > 0 then n else 0)) fun s => XLoop [.int .i64] (fun (K' : Int → WP) (i : Int) => XIf (decide (i < ((s.n : Int)))) (XIdx s.p s.n i 1 fun a => XSet a (.int .u8 (IntKind.u8.wrap (IntKind.i64.wrap ((IntKind.i64.wrap (i * 7)) + 1)))) <| K' (IntKind.i64.wrap (i + 1))) (R s)) 0
theorem c_kit_Row {n : Int} {R : Sl → WP} {wd : World} (h : kit_Row n R wd) : XCall Pr F_kit_Row [.int .i64 n] .one [.slice] R wd :=
  xcall_of nogor mixed (f := F_kit_Row) (fn := Go.Proofs.Tryz.f82) (dp := [2]) rfl (by kernel_rfl) (by
    have e : wpF Pr [2] (wpDr Pr Go.Proofs.Tryz.f82) Go.Proofs.Tryz.f82 [.int .i64 n] [.slice] R = kit_Row n R := by kernel_rfl
    rw [e]; exact h)

noncomputable def pack_Put (b : Sl) (v : Int) (n : Int) (R : Sl → Int → WP) : WP := XJoin [.bool] (fun (K' : Bool → WP) => XIf ((decide (n < 1)) || (decide (n > 8))) (K' true) (XJoin [.bool] (fun (K'1 : Bool → WP) => XIf (decide (n < 8)) (XAsrt ((0 : Int) ≤ (IntKind.i64.wrap (8 * n))) <| K'1 ((Int.fdiv v (2 ^ (min (Int.toNat (IntKind.i64.wrap (8 * n))) 64))) != 0)) (K'1 false)) fun (c1 : Bool) => K' c1)) fun (c : Bool) => XIf c (R ⟨none, 0, 0⟩ 3) (XMake Pr T_L_uint8 (.int .i64 (IntKind.i64.wrap (((b.n : Int)) + n))) (.int .i64 (IntKind.i64.wrap (((b.n : Int)) + n))) fun s => XCopy Pr T_L_uint8 T_L_uint8 T_int (s.v) (b.v) fun n1 => XLoop [.int .i64] (fun (K'2 : Int → WP) (x : Int) => XIf (decide (x < n)) (XAsrt ((0 : Int) ≤ (IntKind.i64.wrap (8 * x))) <| XIdx s.p s.n (IntKind.i64.wrap ((IntKind.i64.wrap (((s.n : Int)) - 1)) - x)) 1 fun a => XSet a (.int .u8 (IntKind.u8.wrap (Int.fdiv v (2 ^ (min (Int.toNat (IntKind.i64.wrap (8 * x))) 64))))) <| K'2 (IntKind.i64.wrap (x + 1))) (R s 0)) 0)
theorem c_pack_Put {b : Sl} {v : Int} {n : Int} {R : Sl → Int → WP} {wd : World} (h : pack_Put b v n R wd) : XCall Pr F_pack_Put [b.v, .int .u64 v, .int .i64 n] (.tup [none, none]) [.slice, .int .i64] R wd :=
  xcall_of nogor mixed (f := F_pack_Put) (fn := Go.Proofs.Tryz.f83) (dp := [6, 7]) rfl (by kernel_rfl) (by
    have e : wpF Pr [6, 7] (wpDr Pr Go.Proofs.Tryz.f83) Go.Proofs.Tryz.f83 [b.v, .int .u64 v, .int .i64 n] [.slice, .int .i64] R = pack_Put b v n R := by kernel_rfl
    rw [e]; exact h)

noncomputable def pack_Words (b : Sl) (R : Sl → Int → WP) : WP := XAsrt (2 ≠ (0 : Int)) <| XIf ((((b.n : Int)).tmod 2) != 0) (R ⟨none, 0, 0⟩ 22) (XAsrt (2 ≠ (0 : Int)) <| XMake Pr T_L_uint16 (.int .i64 (IntKind.i64.wrap (((b.n : Int)).tdiv 2))) (.int .i64 (IntKind.i64.wrap (((b.n : Int)).tdiv 2))) fun s => XLoop [.int .i64] (fun (K' : Int → WP) (x : Int) => XIf (decide (x < ((s.n : Int)))) (XDraw <| XIdx b.p b.n (IntKind.i64.wrap (2 * x)) 1 fun a => XGet (.int .u8) a fun (y : Int) => XAsrt ((0 : Int) ≤ 8) <| XIdx b.p b.n (IntKind.i64.wrap ((IntKind.i64.wrap (2 * x)) + 1)) 1 fun a1 => XGet (.int .u8) a1 fun (y1 : Int) => XIdx s.p s.n x 1 fun a2 => XSet a2 (.int .u16 (bits .or .u16 (IntKind.u16.wrap ((IntKind.u16.wrap (y)) * 2 ^ (min (Int.toNat 8) 16))) (IntKind.u16.wrap (y1)))) <| K' (IntKind.i64.wrap (x + 1))) (R s 0)) 0)
theorem c_pack_Words {b : Sl} {R : Sl → Int → WP} {wd : World} (h : pack_Words b R wd) : XCall Pr F_pack_Words [b.v] (.tup [none, none]) [.slice, .int .i64] R wd :=
  xcall_of nogor mixed (f := F_pack_Words) (fn := Go.Proofs.Tryz.f84) (dp := [2, 3]) rfl (by kernel_rfl) (by
    have e : wpF Pr [2, 3] (wpDr Pr Go.Proofs.Tryz.f84) Go.Proofs.Tryz.f84 [b.v] [.slice, .int .i64] R = pack_Words b R := by kernel_rfl
    rw [e]; exact h)

noncomputable def ref11_tagged (kind : Int) (R : Bool → WP) : WP := R ((kind == 1) || (kind == 2))
theorem c_ref11_tagged {kind : Int} {R : Bool → WP} {wd : World} (h : ref11_tagged kind R wd) : XCall Pr F_ref11_tagged [.int .i64 kind] .one [.bool] R wd :=
  xcall_of nogor mixed (f := F_ref11_tagged) (fn := Go.Proofs.Tryz.f85) (dp := [2]) rfl (by kernel_rfl) (by
    have e : wpF Pr [2] (wpDr Pr Go.Proofs.Tryz.f85) Go.Proofs.Tryz.f85 [.int .i64 kind] [.bool] R = ref11_tagged kind R := by kernel_rfl
    rw [e]; exact h)

noncomputable def ref11_valued (kind : Int) (R : Bool → WP) : WP := R (kind != 5)
theorem c_ref11_valued {kind : Int} {R : Bool → WP} {wd : World} (h : ref11_valued kind R wd) : XCall Pr F_ref11_valued [.int .i64 kind] .one [.bool] R wd :=
  xcall_of nogor mixed (f := F_ref11_valued) (fn := Go.Proofs.Tryz.f86) (dp := [2]) rfl (by kernel_rfl) (by
    have e : wpF Pr [2] (wpDr Pr Go.Proofs.Tryz.f86) Go.Proofs.Tryz.f86 [.int .i64 kind] [.bool] R = ref11_valued kind R := by kernel_rfl
    rw [e]; exact h)

noncomputable def ref11_named (kind : Int) (R : Bool → WP) : WP := R ((kind == 5) || (kind == 6))
theorem c_ref11_named {kind : Int} {R : Bool → WP} {wd : World} (h : ref11_named kind R wd) : XCall Pr F_ref11_named [.int .i64 kind] .one [.bool] R wd :=
  xcall_of nogor mixed (f := F_ref11_named) (fn := Go.Proofs.Tryz.f87) (dp := [2]) rfl (by kernel_rfl) (by
    have e : wpF Pr [2] (wpDr Pr Go.Proofs.Tryz.f87) Go.Proofs.Tryz.f87 [.int .i64 kind] [.bool] R = ref11_named kind R := by kernel_rfl
    rw [e]; exact h)

noncomputable def ref09_Name (s : ByteArray) (R : Bool → WP) : WP := XJoin [.bool] (fun (K' : Bool → WP) => XIf ((decide (((s.size : Int)) < 1)) || (decide (((s.size : Int)) > 16))) (K' true) (XByte s 0 fun (y : Int) => XCall Pr F_ref09_letter [.int .u8 y] .one [.bool] <| fun (c1 : Bool) => K' (!c1))) fun (c : Bool) => XIf c (R false) (XLoop [.int .i64] (fun (K'1 : Int → WP) (i : Int) => XIf (decide (i < ((s.size : Int)))) (XByte s i fun (y1 : Int) => XCall Pr F_ref09_letter [.int .u8 y1] .one [.bool] <| fun (c2 : Bool) => XJoin [.bool] (fun (K'2 : Bool → WP) => XIf (!c2) (K'2 ((decide (y1 < 48)) || (decide (y1 > 57)))) (K'2 false)) fun (c3 : Bool) => XIf (((c3 && (y1 != 95)) && (y1 != 46)) && (y1 != 45)) (R false) (K'1 (IntKind.i64.wrap (i + 1)))) (R true)) 0)
theorem c_ref09_Name {s : ByteArray} {R : Bool → WP} {wd : World} (h : ref09_Name s R wd) : XCall Pr F_ref09_Name [.string s] .one [.bool] R wd :=
  xcall_of nogor mixed (f := F_ref09_Name) (fn := Go.Proofs.Tryz.f88) (dp := [2]) rfl (by kernel_rfl) (by
    have e : wpF Pr [2] (wpDr Pr Go.Proofs.Tryz.f88) Go.Proofs.Tryz.f88 [.string s] [.bool] R = ref09_Name s R := by kernel_rfl
    rw [e]; exact h)

noncomputable def ref11_value (kind : Int) (v : Int) (R : Bool → WP) : WP := XIf (kind == 1) (R ((decide (v ≥ (-1099511627776))) && (decide (v ≤ 1099511627776)))) (XIf (kind == 2) (R ((decide (v ≥ 1)) && (decide (v ≤ 4)))) (XIf (kind == 6) (R ((decide (v ≥ 0)) && (decide (v ≤ 255)))) (R ((decide (v ≥ 1)) && (decide (v ≤ 1099511627776))))))
theorem c_ref11_value {kind : Int} {v : Int} {R : Bool → WP} {wd : World} (h : ref11_value kind v R wd) : XCall Pr F_ref11_value [.int .i64 kind, .int .i64 v] .one [.bool] R wd :=
  xcall_of nogor mixed (f := F_ref11_value) (fn := Go.Proofs.Tryz.f89) (dp := [4]) rfl (by kernel_rfl) (by
    have e : wpF Pr [4] (wpDr Pr Go.Proofs.Tryz.f89) Go.Proofs.Tryz.f89 [.int .i64 kind, .int .i64 v] [.bool] R = ref11_value kind v R := by kernel_rfl
    rw [e]; exact h)

noncomputable def ref26_words (v : Int) (n : Int) (R : Sl → WP) : WP := XLoop [.slice, .int .i64] (fun (K' : Sl → Int → WP) out (i : Int) => XIf (decide (i ≥ 0)) (XLoop [.int .u64, .int .i64] (fun (K'1 : Int → Int → WP) (x : Int) (k : Int) => XIf (decide (k < i)) (XAsrt (65536 ≠ (0 : Int)) <| K'1 (IntKind.u64.wrap (x.tdiv 65536)) (IntKind.i64.wrap (k + 1))) (XAsrt (65536 ≠ (0 : Int)) <| XNew [.int .u16 (IntKind.u16.wrap (x.tmod 65536))] T_uint16 fun b => XApp Pr T_L_uint16 T_L_uint16 T_L_uint16 (out.v) (.slice ((some ⟨b, 0, none⟩)) 1 1) fun s => K' s (IntKind.i64.wrap (i - 1)))) v 0) (R out)) ⟨none, 0, 0⟩ (IntKind.i64.wrap (n - 1))
theorem c_ref26_words {v : Int} {n : Int} {R : Sl → WP} {wd : World} (h : ref26_words v n R wd) : XCall Pr F_ref26_words [.int .u64 v, .int .i64 n] .one [.slice] R wd :=
  xcall_of nogor mixed (f := F_ref26_words) (fn := Go.Proofs.Tryz.f90) (dp := [4]) rfl (by kernel_rfl) (by
    have e : wpF Pr [4] (wpDr Pr Go.Proofs.Tryz.f90) Go.Proofs.Tryz.f90 [.int .u64 v, .int .i64 n] [.slice] R = ref26_words v n R := by kernel_rfl
    rw [e]; exact h)

noncomputable def segs_drop (d : Option Addr) (name : ByteArray) (R : Int → WP) : WP := XCall Pr F_device_Device_Remove [.pointer d, .string name] .one [.int .i64] <| fun (r : Int) => XIf (r != 6) (R r) (R 0)
theorem c_segs_drop {d : Option Addr} {name : ByteArray} {R : Int → WP} {wd : World} (h : segs_drop d name R wd) : XCall Pr F_segs_drop [.pointer d, .string name] .one [.int .i64] R wd :=
  xcall_of nogor mixed (f := F_segs_drop) (fn := Go.Proofs.Tryz.f91) (dp := [4]) rfl (by kernel_rfl) (by
    have e : wpF Pr [4] (wpDr Pr Go.Proofs.Tryz.f91) Go.Proofs.Tryz.f91 [.pointer d, .string name] [.int .i64] R = segs_drop d name R := by kernel_rfl
    rw [e]; exact h)

noncomputable def segs_readHead (d : Option Addr) (R : Int → Int → Int → WP) : WP := XCall Pr F_device_Device_Read [.pointer d, .string ((⟨#[104, 101, 97, 100]⟩ : ByteArray))] (.tup [none, none]) [.slice, .int .i64] <| fun s (r : Int) => XIf (r != 0) (R 1 0 0) (XCall Pr F_chunk_Get [s.v] (.tup [none, none, none]) [.slice, .int .i64, .int .i64] <| fun s1 (r1 : Int) (r2 : Int) => XIf (((r2 != 0) || (r1 != ((s.n : Int)))) || (((s1.n : Int)) != 16)) (R 0 0 30) (XCall Pr F_pack_Get [s1.v, .int .i64 0, .int .i64 8] (.tup [none, none]) [.int .u64, .int .i64] <| fun (r3 : Int) (r4 : Int) => XCall Pr F_pack_Get [s1.v, .int .i64 8, .int .i64 8] (.tup [none, none]) [.int .u64, .int .i64] <| fun (r5 : Int) (r6 : Int) => XIf (((decide (r3 < 1)) || (decide (r3 > 999999999999))) || (decide (r5 > 1099511627776))) (R 0 0 30) (R (IntKind.i64.wrap (r3)) (IntKind.i64.wrap (r5)) 0)))
theorem c_segs_readHead {d : Option Addr} {R : Int → Int → Int → WP} {wd : World} (h : segs_readHead d R wd) : XCall Pr F_segs_readHead [.pointer d] (.tup [none, none, none]) [.int .i64, .int .i64, .int .i64] R wd :=
  xcall_of nogor mixed (f := F_segs_readHead) (fn := Go.Proofs.Tryz.f92) (dp := [2, 3]) rfl (by kernel_rfl) (by
    have e : wpF Pr [2, 3] (wpDr Pr Go.Proofs.Tryz.f92) Go.Proofs.Tryz.f92 [.pointer d] [.int .i64, .int .i64, .int .i64] R = segs_readHead d R := by kernel_rfl
    rw [e]; exact h)

noncomputable def device_Device_Read (d : Option Addr) (name : ByteArray) (R : Sl → Int → WP) : WP := XCall Pr F_device_Device_find [.pointer d, .string name] (.tup [none, none]) [.int .i64, .bool] <| fun (r : Int) (c : Bool) => XIf (!c) (R ⟨none, 0, 0⟩ 6) (XNil d fun a => XGet .slice (a.add 4) fun s => XIdx s.p s.n r 3 fun a1 => XGet .slice (a1.add 1) fun s1 => XCall Pr F_slices_Clone_L_byte_byte_ [s1.v] .one [.slice] <| fun s2 => R s2 0)
theorem c_device_Device_Read {d : Option Addr} {name : ByteArray} {R : Sl → Int → WP} {wd : World} (h : device_Device_Read d name R wd) : XCall Pr F_device_Device_Read [.pointer d, .string name] (.tup [none, none]) [.slice, .int .i64] R wd :=
  xcall_of nogor mixed (f := F_device_Device_Read) (fn := Go.Proofs.Tryz.f93) (dp := [4, 5]) rfl (by kernel_rfl) (by
    have e : wpF Pr [4, 5] (wpDr Pr Go.Proofs.Tryz.f93) Go.Proofs.Tryz.f93 [.pointer d, .string name] [.slice, .int .i64] R = device_Device_Read d name R := by kernel_rfl
    rw [e]; exact h)

noncomputable def segs_file (n : Int) (R : ByteArray → WP) : WP := XCall Pr F_strconv_Itoa [.int .i64 n] .one [.str] <| fun (t : ByteArray) => XAsrt (((⟨#[108, 111, 103, 45]⟩ : ByteArray)).size + t.size ≤ 9223372036854775807) <| R (((⟨#[108, 111, 103, 45]⟩ : ByteArray)) ++ t)
theorem c_segs_file {n : Int} {R : ByteArray → WP} {wd : World} (h : segs_file n R wd) : XCall Pr F_segs_file [.int .i64 n] .one [.str] R wd :=
  xcall_of nogor mixed (f := F_segs_file) (fn := Go.Proofs.Tryz.f94) (dp := [2]) rfl (by kernel_rfl) (by
    have e : wpF Pr [2] (wpDr Pr Go.Proofs.Tryz.f94) Go.Proofs.Tryz.f94 [.int .i64 n] [.str] R = segs_file n R := by kernel_rfl
    rw [e]; exact h)

noncomputable def chunk_Scan (b : Sl) (R : Sl → Int → WP) : WP := XLoop [.slice, .int .i64] (fun (K' : Sl → Int → WP) l (at' : Int) => XSlc b at' b.n b.c 1 fun s => XCall Pr F_chunk_Get [s.v] (.tup [none, none, none]) [.slice, .int .i64, .int .i64] <| fun s1 (r : Int) (r1 : Int) => XIf (r1 != 0) (R l at') (XNew [s1.v] T_L_uint8 fun b1 => XApp Pr T_L_L_uint8 T_L_L_uint8 T_L_L_uint8 (l.v) (.slice ((some ⟨b1, 0, none⟩)) 1 1) fun s2 => K' s2 (IntKind.i64.wrap (at' + r)))) ⟨none, 0, 0⟩ 0
theorem c_chunk_Scan {b : Sl} {R : Sl → Int → WP} {wd : World} (h : chunk_Scan b R wd) : XCall Pr F_chunk_Scan [b.v] (.tup [none, none]) [.slice, .int .i64] R wd :=
  xcall_of nogor mixed (f := F_chunk_Scan) (fn := Go.Proofs.Tryz.f95) (dp := [2, 3]) rfl (by kernel_rfl) (by
    have e : wpF Pr [2, 3] (wpDr Pr Go.Proofs.Tryz.f95) Go.Proofs.Tryz.f95 [b.v] [.slice, .int .i64] R = chunk_Scan b R := by kernel_rfl
    rw [e]; exact h)

noncomputable def device_Device_Truncate (d : Option Addr) (name : ByteArray) (n : Int) (R : Int → WP) : WP := XCall Pr F_device_Device_find [.pointer d, .string name] (.tup [none, none]) [.int .i64, .bool] <| fun (r : Int) (c : Bool) => XNil d fun a => XGet .bool (a.add 1) fun (c1 : Bool) => XIf c1 (R 10) (XIf (!c) (R 6) (XJoin [.bool] (fun (K' : Bool → WP) => XIf (decide (n < 0)) (K' true) (XNil d fun a1 => XGet .slice (a1.add 4) fun s => XIdx s.p s.n r 3 fun a2 => XGet .slice (a2.add 1) fun s1 => K' (decide (n > ((s1.n : Int)))))) fun (c2 : Bool) => XIf c2 (R 3) (XNil d fun a3 => XCall Pr F_device_power_spend [.pointer (some a3)] .one [.bool] <| fun (c3 : Bool) => XIf (!c3) (R 10) (XNil d fun a4 => XGet .slice (a4.add 4) fun s2 => XIdx s2.p s2.n r 3 fun a5 => XDraw <| XNil (some a5) fun a6 => XGet .slice (a6.add 1) fun s3 => XSlc s3 0 n s3.c 1 fun s4 => XNil (some a5) fun a7 => XGet (.int .i64) (a7.add 2) fun (n1 : Int) => XNil (some a5) fun a8 => XSet (a8.add 1) (s4.v) <| XNil (some a5) fun a9 => XSet (a9.add 2) (.int .i64 (if n < n1 then n else n1)) <| R 0))))
theorem c_device_Device_Truncate {d : Option Addr} {name : ByteArray} {n : Int} {R : Int → WP} {wd : World} (h : device_Device_Truncate d name n R wd) : XCall Pr F_device_Device_Truncate [.pointer d, .string name, .int .i64 n] .one [.int .i64] R wd :=
  xcall_of nogor mixed (f := F_device_Device_Truncate) (fn := Go.Proofs.Tryz.f96) (dp := [6]) rfl (by kernel_rfl) (by
    have e : wpF Pr [6] (wpDr Pr Go.Proofs.Tryz.f96) Go.Proofs.Tryz.f96 [.pointer d, .string name, .int .i64 n] [.int .i64] R = device_Device_Truncate d name n R := by kernel_rfl
    rw [e]; exact h)

noncomputable def device_Device_Sync (d : Option Addr) (name : ByteArray) (R : Int → WP) : WP := XCall Pr F_device_Device_find [.pointer d, .string name] (.tup [none, none]) [.int .i64, .bool] <| fun (r : Int) (c : Bool) => XNil d fun a => XGet .bool (a.add 1) fun (c1 : Bool) => XIf c1 (R 10) (XIf (!c) (R 6) (XNil d fun a1 => XCall Pr F_device_power_spend [.pointer (some a1)] .one [.bool] <| fun (c2 : Bool) => XIf (!c2) (R 10) (XDraw <| XNil d fun a2 => XGet .slice (a2.add 4) fun s => XNil d fun a3 => XGet .slice (a3.add 4) fun s1 => XIdx s1.p s1.n r 3 fun a4 => XGet .slice (a4.add 1) fun s2 => XIdx s.p s.n r 3 fun a5 => XSet (a5.add 2) (.int .i64 ((s2.n : Int))) <| R 0)))
theorem c_device_Device_Sync {d : Option Addr} {name : ByteArray} {R : Int → WP} {wd : World} (h : device_Device_Sync d name R wd) : XCall Pr F_device_Device_Sync [.pointer d, .string name] .one [.int .i64] R wd :=
  xcall_of nogor mixed (f := F_device_Device_Sync) (fn := Go.Proofs.Tryz.f97) (dp := [4]) rfl (by kernel_rfl) (by
    have e : wpF Pr [4] (wpDr Pr Go.Proofs.Tryz.f97) Go.Proofs.Tryz.f97 [.pointer d, .string name] [.int .i64] R = device_Device_Sync d name R := by kernel_rfl
    rw [e]; exact h)

noncomputable def device_Device_Names (d : Option Addr) (R : Sl → WP) : WP := XNil d fun a => XGet .slice (a.add 4) fun s => XLoop [.slice, .int .i64] (fun (K' : Sl → Int → WP) out (x : Int) => XIf (decide (x < ((s.n : Int)))) (XIdx s.p s.n x 3 fun a1 => XGet .str a1 fun (t : ByteArray) => XGet .slice (a1.add 1) fun s1 => XGet (.int .i64) (a1.add 2) fun (n : Int) => XNew [.string ByteArray.empty, .slice none 0 0, .int .i64 0] T_device_file fun b => XSet ⟨b, 0, none⟩ (.string t) <| XSet ⟨b, 1, none⟩ (s1.v) <| XSet ⟨b, 2, none⟩ (.int .i64 n) <| XGet .str ⟨b, 0, none⟩ fun (t1 : ByteArray) => XNew [.string t1] T_string fun b1 => XApp Pr T_L_string T_L_string T_L_string (out.v) (.slice ((some ⟨b1, 0, none⟩)) 1 1) fun s2 => K' s2 (IntKind.i64.wrap (x + 1))) (R out)) ⟨none, 0, 0⟩ 0
theorem c_device_Device_Names {d : Option Addr} {R : Sl → WP} {wd : World} (h : device_Device_Names d R wd) : XCall Pr F_device_Device_Names [.pointer d] .one [.slice] R wd :=
  xcall_of nogor mixed (f := F_device_Device_Names) (fn := Go.Proofs.Tryz.f98) (dp := [2]) rfl (by kernel_rfl) (by
    have e : wpF Pr [2] (wpDr Pr Go.Proofs.Tryz.f98) Go.Proofs.Tryz.f98 [.pointer d] [.slice] R = device_Device_Names d R := by kernel_rfl
    rw [e]; exact h)

noncomputable def segs_isFile (name : ByteArray) (R : Bool → WP) : WP := XCall Pr F_strings_CutPrefix [.string name, .string ((⟨#[108, 111, 103, 45]⟩ : ByteArray))] (.tup [none, none]) [.str, .bool] <| fun (t : ByteArray) (c : Bool) => XJoin [.bool] (fun (K' : Bool → WP) => XIf c (K' (!(t.toList == ByteArray.empty.toList))) (K' false)) fun (c1 : Bool) => XJoin [.bool] (fun (K'1 : Bool → WP) => XIf (c1 && (decide (((t.size : Int)) ≤ 12))) (XByte t 0 fun (y : Int) => K'1 (y != 48)) (K'1 false)) fun (c2 : Bool) => XJoin [.bool] (fun (K'2 : Bool → WP) => XIf c2 (XCall Pr F_strings_Trim [.string t, .string ((⟨#[48, 49, 50, 51, 52, 53, 54, 55, 56, 57]⟩ : ByteArray))] .one [.str] <| fun (t1 : ByteArray) => K'2 (t1.toList == ByteArray.empty.toList)) (K'2 false)) fun (c3 : Bool) => R c3
theorem c_segs_isFile {name : ByteArray} {R : Bool → WP} {wd : World} (h : segs_isFile name R wd) : XCall Pr F_segs_isFile [.string name] .one [.bool] R wd :=
  xcall_of nogor mixed (f := F_segs_isFile) (fn := Go.Proofs.Tryz.f99) (dp := [2]) rfl (by kernel_rfl) (by
    have e : wpF Pr [2] (wpDr Pr Go.Proofs.Tryz.f99) Go.Proofs.Tryz.f99 [.string name] [.bool] R = segs_isFile name R := by kernel_rfl
    rw [e]; exact h)

noncomputable def slices_ContainsFunc_L_segs_segment_segs_segment_ (s : Sl) (f_0 : Addr) (R : Bool → WP) : WP := XCall Pr F_slices_IndexFunc_L_segs_segment_segs_segment_ [s.v, .func (.func 101) #[] #[.pointer (some f_0)]] .one [.int .i64] <| fun (r : Int) => R (decide (r ≥ 0))
theorem c_slices_ContainsFunc_L_segs_segment_segs_segment_ {s : Sl} {f_0 : Addr} {R : Bool → WP} {wd : World} (h : slices_ContainsFunc_L_segs_segment_segs_segment_ s f_0 R wd) : XCall Pr F_slices_ContainsFunc_L_segs_segment_segs_segment_ [s.v, .func (.func 101) #[] #[.pointer (some f_0)]] .one [.bool] R wd :=
  xcall_of nogor mixed (f := F_slices_ContainsFunc_L_segs_segment_segs_segment_) (fn := Go.Proofs.Tryz.f100) (dp := [4]) rfl (by kernel_rfl) (by
    have e : wpF Pr [4] (wpDr Pr Go.Proofs.Tryz.f100) Go.Proofs.Tryz.f100 [s.v, .func (.func 101) #[] #[.pointer (some f_0)]] [.bool] R = slices_ContainsFunc_L_segs_segment_segs_segment_ s f_0 R := by kernel_rfl
    rw [e]; exact h)

noncomputable def segs_Open_1 (s0 : Int) (s1 : Int) (s2 : Int) (s3 : Sl) (fv0 : Addr) (R : Bool → WP) : WP := XNew [.int .i64 s0, .int .i64 s1, .int .i64 s2, s3.v] T_segs_segment fun b => XDraw <| XGet (.int .i64) ⟨b, 0, none⟩ fun (n : Int) => XGet .str fv0 fun (t : ByteArray) => XCall Pr F_segs_file [.int .i64 n] .one [.str] <| fun (t1 : ByteArray) => XChk fv0 (.string t) <| R (t1.toList == t.toList)
theorem c_segs_Open_1 {s0 : Int} {s1 : Int} {s2 : Int} {s3 : Sl} {fv0 : Addr} {R : Bool → WP} {wd : World} (h : segs_Open_1 s0 s1 s2 s3 fv0 R wd) : XCall Pr F_segs_Open_1 [.agg #[.int .i64 s0, .int .i64 s1, .int .i64 s2, s3.v], .pointer (some fv0)] .one [.bool] R wd :=
  xcall_of nogor mixed (f := F_segs_Open_1) (fn := Go.Proofs.Tryz.f101) (dp := [3]) rfl (by kernel_rfl) (by
    have e : wpF Pr [3] (wpDr Pr Go.Proofs.Tryz.f101) Go.Proofs.Tryz.f101 [.agg #[.int .i64 s0, .int .i64 s1, .int .i64 s2, s3.v], .pointer (some fv0)] [.bool] R = segs_Open_1 s0 s1 s2 s3 fv0 R := by kernel_rfl
    rw [e]; exact h)

noncomputable def device_Device_Remove (d : Option Addr) (name : ByteArray) (R : Int → WP) : WP := XCall Pr F_device_Device_find [.pointer d, .string name] (.tup [none, none]) [.int .i64, .bool] <| fun (r : Int) (c : Bool) => XNil d fun a => XGet .bool (a.add 1) fun (c1 : Bool) => XIf c1 (R 10) (XIf (!c) (R 6) (XNil d fun a1 => XCall Pr F_device_power_spend [.pointer (some a1)] .one [.bool] <| fun (c2 : Bool) => XIf (!c2) (R 10) (XNil d fun a2 => XGet .slice (a2.add 4) fun s => XCall Pr F_slices_Delete_L_device_file_device_file_ [s.v, .int .i64 r, .int .i64 (IntKind.i64.wrap (r + 1))] .one [.slice] <| fun s1 => XNil d fun a3 => XSet (a3.add 4) (s1.v) <| R 0)))
theorem c_device_Device_Remove {d : Option Addr} {name : ByteArray} {R : Int → WP} {wd : World} (h : device_Device_Remove d name R wd) : XCall Pr F_device_Device_Remove [.pointer d, .string name] .one [.int .i64] R wd :=
  xcall_of nogor mixed (f := F_device_Device_Remove) (fn := Go.Proofs.Tryz.f102) (dp := [4]) rfl (by kernel_rfl) (by
    have e : wpF Pr [4] (wpDr Pr Go.Proofs.Tryz.f102) Go.Proofs.Tryz.f102 [.pointer d, .string name] [.int .i64] R = device_Device_Remove d name R := by kernel_rfl
    rw [e]; exact h)

noncomputable def segs_Log_alive (l : Option Addr) (R : Int → WP) : WP := XNil l fun a => XGet .ptr a fun (q : Option Addr) => XNil q fun a1 => XCall Pr F_device_power_Down [.pointer (some a1)] .one [.bool] <| fun (c : Bool) => XIf c (R 10) (R 0)
theorem c_segs_Log_alive {l : Option Addr} {R : Int → WP} {wd : World} (h : segs_Log_alive l R wd) : XCall Pr F_segs_Log_alive [.pointer l] .one [.int .i64] R wd :=
  xcall_of nogor mixed (f := F_segs_Log_alive) (fn := Go.Proofs.Tryz.f103) (dp := [2]) rfl (by kernel_rfl) (by
    have e : wpF Pr [2] (wpDr Pr Go.Proofs.Tryz.f103) Go.Proofs.Tryz.f103 [.pointer l] [.int .i64] R = segs_Log_alive l R := by kernel_rfl
    rw [e]; exact h)

noncomputable def chunk_Put (p : Sl) (R : Sl → Int → WP) : WP := XIf (decide (((p.n : Int)) > 1024)) (R ⟨none, 0, 0⟩ 2) (XCall Pr F_chunk_sumOf [p.v] .one [.int .u32] <| fun (r : Int) => XMake Pr T_L_uint8 (.int .i64 6) (.int .i64 (IntKind.i64.wrap (6 + ((p.n : Int))))) fun s => XAsrt ((0 : Int) ≤ 8) <| XAsrt ((0 : Int) ≤ 24) <| XAsrt ((0 : Int) ≤ 16) <| XAsrt ((0 : Int) ≤ 8) <| XNew [.int .u8 (IntKind.u8.wrap (Int.fdiv ((p.n : Int)) (2 ^ (min (Int.toNat 8) 64)))), .int .u8 (IntKind.u8.wrap ((p.n : Int))), .int .u8 (IntKind.u8.wrap (Int.fdiv r (2 ^ (min (Int.toNat 24) 32)))), .int .u8 (IntKind.u8.wrap (Int.fdiv r (2 ^ (min (Int.toNat 16) 32)))), .int .u8 (IntKind.u8.wrap (Int.fdiv r (2 ^ (min (Int.toNat 8) 32)))), .int .u8 (IntKind.u8.wrap (r))] T_uint8 fun b => XCopy Pr T_L_uint8 T_L_uint8 T_int (s.v) (.slice ((some ⟨b, 0, none⟩)) 6 6) fun n => XApp Pr T_L_uint8 T_L_uint8 T_L_uint8 (s.v) (p.v) fun s1 => R s1 0)
theorem c_chunk_Put {p : Sl} {R : Sl → Int → WP} {wd : World} (h : chunk_Put p R wd) : XCall Pr F_chunk_Put [p.v] (.tup [none, none]) [.slice, .int .i64] R wd :=
  xcall_of nogor mixed (f := F_chunk_Put) (fn := Go.Proofs.Tryz.f104) (dp := [2, 3]) rfl (by kernel_rfl) (by
    have e : wpF Pr [2, 3] (wpDr Pr Go.Proofs.Tryz.f104) Go.Proofs.Tryz.f104 [p.v] [.slice, .int .i64] R = chunk_Put p R := by kernel_rfl
    rw [e]; exact h)

noncomputable def device_Device_Append (d : Option Addr) (name : ByteArray) (b : Sl) (R : Int → WP) : WP := XCall Pr F_device_Device_find [.pointer d, .string name] (.tup [none, none]) [.int .i64, .bool] <| fun (r : Int) (c : Bool) => XCall Pr F_device_named [.string name] .one [.bool] <| fun (c1 : Bool) => XIf (!c1) (R 8) (XNil d fun a => XGet .bool (a.add 1) fun (c2 : Bool) => XIf c2 (R 10) (XJoin [.bool] (fun (K' : Bool → WP) => XIf (!c) (XNil d fun a1 => XGet .slice (a1.add 4) fun s => K' (decide (((s.n : Int)) ≥ 64))) (K' false)) fun (c3 : Bool) => XJoin [.bool] (fun (K'1 : Bool → WP) => XIf c3 (K'1 true) (XCall Pr F_device_Device_Free [.pointer d] .one [.int .i64] <| fun (r1 : Int) => K'1 (decide (((b.n : Int)) > r1)))) fun (c4 : Bool) => XIf c4 (R 9) (XNil d fun a2 => XCall Pr F_device_power_spend [.pointer (some a2)] .one [.bool] <| fun (c5 : Bool) => XIf (!c5) (R 10) (XJoin [] (fun K'2 => XIf (!c) (XNil d fun a3 => XGet .slice (a3.add 4) fun s1 => XNew [.string name, .slice none 0 0, .int .i64 0] T_device_file fun b1 => XCall Pr F_slices_Insert_L_device_file_device_file_ [s1.v, .int .i64 r, .slice ((some ⟨b1, 0, none⟩)) 1 1] .one [.slice] <| fun s2 => XNil d fun a4 => XSet (a4.add 4) (s2.v) <| K'2) (K'2)) <| XDraw <| XNil d fun a5 => XGet .slice (a5.add 4) fun s3 => XNil d fun a6 => XGet .slice (a6.add 4) fun s4 => XIdx s4.p s4.n r 3 fun a7 => XGet .slice (a7.add 1) fun s5 => XApp Pr T_L_uint8 T_L_uint8 T_L_uint8 (s5.v) (b.v) fun s6 => XChk (a5.add 4) (s3.v) <| XIdx s3.p s3.n r 3 fun a8 => XSet (a8.add 1) (s6.v) <| R 0))))
theorem c_device_Device_Append {d : Option Addr} {name : ByteArray} {b : Sl} {R : Int → WP} {wd : World} (h : device_Device_Append d name b R wd) : XCall Pr F_device_Device_Append [.pointer d, .string name, b.v] .one [.int .i64] R wd :=
  xcall_of nogor mixed (f := F_device_Device_Append) (fn := Go.Proofs.Tryz.f105) (dp := [6]) rfl (by kernel_rfl) (by
    have e : wpF Pr [6] (wpDr Pr Go.Proofs.Tryz.f105) Go.Proofs.Tryz.f105 [.pointer d, .string name, b.v] [.int .i64] R = device_Device_Append d name b R := by kernel_rfl
    rw [e]; exact h)

noncomputable def slices_Clone_L_byte_byte_ (s : Sl) (R : Sl → WP) : WP := XIf (noneB s.p) (R ⟨none, 0, 0⟩) (XNew [] T_uint8 fun b => XApp Pr T_L_uint8 T_L_uint8 T_L_uint8 (.slice ((some ⟨b, 0, none⟩)) 0 0) (s.v) fun s1 => R s1)
theorem c_slices_Clone_L_byte_byte_ {s : Sl} {R : Sl → WP} {wd : World} (h : slices_Clone_L_byte_byte_ s R wd) : XCall Pr F_slices_Clone_L_byte_byte_ [s.v] .one [.slice] R wd :=
  xcall_of nogor mixed (f := F_slices_Clone_L_byte_byte_) (fn := Go.Proofs.Tryz.f106) (dp := [2]) rfl (by kernel_rfl) (by
    have e : wpF Pr [2] (wpDr Pr Go.Proofs.Tryz.f106) Go.Proofs.Tryz.f106 [s.v] [.slice] R = slices_Clone_L_byte_byte_ s R := by kernel_rfl
    rw [e]; exact h)

noncomputable def segs_Log_drops (l : Option Addr) (to : Int) (keep : Int) (R : Int → WP) : WP := XDraw <| XNil l fun a => XGet .slice (a.add 3) fun s => XLoop [.int .i64] (fun (K' : Int → WP) (k : Int) => XDraw <| XJoin [.bool] (fun (K'1 : Bool → WP) => XIf (decide (k < (IntKind.i64.wrap (((s.n : Int)) - (if 1 > keep then 1 else keep))))) (XNil l fun a1 => XGet .slice (a1.add 3) fun s1 => XIdx s1.p s1.n k 4 fun a2 => XGet (.int .i64) a2 fun (n : Int) => XGet (.int .i64) (a2.add 1) fun (n1 : Int) => XGet (.int .i64) (a2.add 2) fun (n2 : Int) => XGet .slice (a2.add 3) fun s2 => XNil l fun a3 => XGet (.int .i64) (a3.add 4) fun (n3 : Int) => XCall Pr F_segs_segment_next [.agg #[.int .i64 n, .int .i64 n1, .int .i64 n2, s2.v]] .one [.int .i64] <| fun (r : Int) => XChk (a3.add 4) (.int .i64 n3) <| K'1 (decide (r ≤ (if n3 < to then n3 else to)))) (K'1 false)) <| fun (c : Bool) => XIf c (K' (IntKind.i64.wrap (k + 1))) (R k)) 0
theorem c_segs_Log_drops {l : Option Addr} {to : Int} {keep : Int} {R : Int → WP} {wd : World} (h : segs_Log_drops l to keep R wd) : XCall Pr F_segs_Log_drops [.pointer l, .int .i64 to, .int .i64 keep] .one [.int .i64] R wd :=
  xcall_of nogor mixed (f := F_segs_Log_drops) (fn := Go.Proofs.Tryz.f107) (dp := [6]) rfl (by kernel_rfl) (by
    have e : wpF Pr [6] (wpDr Pr Go.Proofs.Tryz.f107) Go.Proofs.Tryz.f107 [.pointer l, .int .i64 to, .int .i64 keep] [.int .i64] R = segs_Log_drops l to keep R := by kernel_rfl
    rw [e]; exact h)

noncomputable def segs_Log_layHead (l : Option Addr) (s0 : Int) (s1 : Int) (s2 : Int) (s3 : Sl) (R : Int → WP) : WP := XNew [.int .i64 s0, .int .i64 s1, .int .i64 s2, s3.v] T_segs_segment fun b => XGet (.int .i64) ⟨b, 0, none⟩ fun (n : Int) => XCall Pr F_pack_Put [.slice none 0 0, .int .u64 (IntKind.u64.wrap (n)), .int .i64 8] (.tup [none, none]) [.slice, .int .i64] <| fun s (r : Int) => XGet (.int .i64) ⟨b, 1, none⟩ fun (n1 : Int) => XCall Pr F_pack_Put [s.v, .int .u64 (IntKind.u64.wrap (n1)), .int .i64 8] (.tup [none, none]) [.slice, .int .i64] <| fun s1 (r1 : Int) => XCall Pr F_chunk_Put [s1.v] (.tup [none, none]) [.slice, .int .i64] <| fun s2 (r2 : Int) => XNil l fun a => XGet .ptr a fun (q : Option Addr) => XCall Pr F_segs_drop [.pointer q, .string ((⟨#[104, 101, 97, 100, 46, 110, 101, 119]⟩ : ByteArray))] .one [.int .i64] <| fun (r3 : Int) => XIf (r3 != 0) (R r3) (XNil l fun a1 => XGet .ptr a1 fun (q1 : Option Addr) => XCall Pr F_device_Device_Append [.pointer q1, .string ((⟨#[104, 101, 97, 100, 46, 110, 101, 119]⟩ : ByteArray)), s2.v] .one [.int .i64] <| fun (r4 : Int) => XIf (r4 != 0) (R r4) (XNil l fun a2 => XGet .ptr a2 fun (q2 : Option Addr) => XCall Pr F_device_Device_Sync [.pointer q2, .string ((⟨#[104, 101, 97, 100, 46, 110, 101, 119]⟩ : ByteArray))] .one [.int .i64] <| fun (r5 : Int) => XIf (r5 != 0) (R r5) (XNil l fun a3 => XGet .ptr a3 fun (q3 : Option Addr) => XCall Pr F_device_Device_Rename [.pointer q3, .string ((⟨#[104, 101, 97, 100, 46, 110, 101, 119]⟩ : ByteArray)), .string ((⟨#[104, 101, 97, 100]⟩ : ByteArray))] .one [.int .i64] <| fun (r6 : Int) => R r6)))
theorem c_segs_Log_layHead {l : Option Addr} {s0 : Int} {s1 : Int} {s2 : Int} {s3 : Sl} {R : Int → WP} {wd : World} (h : segs_Log_layHead l s0 s1 s2 s3 R wd) : XCall Pr F_segs_Log_layHead [.pointer l, .agg #[.int .i64 s0, .int .i64 s1, .int .i64 s2, s3.v]] .one [.int .i64] R wd :=
  xcall_of nogor mixed (f := F_segs_Log_layHead) (fn := Go.Proofs.Tryz.f108) (dp := [4]) rfl (by kernel_rfl) (by
    have e : wpF Pr [4] (wpDr Pr Go.Proofs.Tryz.f108) Go.Proofs.Tryz.f108 [.pointer l, .agg #[.int .i64 s0, .int .i64 s1, .int .i64 s2, s3.v]] [.int .i64] R = segs_Log_layHead l s0 s1 s2 s3 R := by kernel_rfl
    rw [e]; exact h)

noncomputable def slices_Clone_L_segs_segment_segs_segment_ (s : Sl) (R : Sl → WP) : WP := XIf (noneB s.p) (R ⟨none, 0, 0⟩) (XNew [] T_segs_segment fun b => XApp Pr T_L_segs_segment T_L_segs_segment T_L_segs_segment (.slice ((some ⟨b, 0, none⟩)) 0 0) (s.v) fun s1 => R s1)
theorem c_slices_Clone_L_segs_segment_segs_segment_ {s : Sl} {R : Sl → WP} {wd : World} (h : slices_Clone_L_segs_segment_segs_segment_ s R wd) : XCall Pr F_slices_Clone_L_segs_segment_segs_segment_ [s.v] .one [.slice] R wd :=
  xcall_of nogor mixed (f := F_slices_Clone_L_segs_segment_segs_segment_) (fn := Go.Proofs.Tryz.f109) (dp := [2]) rfl (by kernel_rfl) (by
    have e : wpF Pr [2] (wpDr Pr Go.Proofs.Tryz.f109) Go.Proofs.Tryz.f109 [s.v] [.slice] R = slices_Clone_L_segs_segment_segs_segment_ s R := by kernel_rfl
    rw [e]; exact h)

noncomputable def index_drop (d : Option Addr) (name : ByteArray) (R : Int → WP) : WP := XCall Pr F_device_Device_Remove [.pointer d, .string name] .one [.int .i64] <| fun (r : Int) => XIf (r != 6) (R r) (R 0)
theorem c_index_drop {d : Option Addr} {name : ByteArray} {R : Int → WP} {wd : World} (h : index_drop d name R wd) : XCall Pr F_index_drop [.pointer d, .string name] .one [.int .i64] R wd :=
  xcall_of nogor mixed (f := F_index_drop) (fn := Go.Proofs.Tryz.f110) (dp := [4]) rfl (by kernel_rfl) (by
    have e : wpF Pr [4] (wpDr Pr Go.Proofs.Tryz.f110) Go.Proofs.Tryz.f110 [.pointer d, .string name] [.int .i64] R = index_drop d name R := by kernel_rfl
    rw [e]; exact h)

noncomputable def index_Index_clear (x : Option Addr) (R : WP) : WP := XCall Pr F_tree_New [.int .i64 8] (.tup [none, none]) [.ptr, .int .i64] <| fun (q : Option Addr) (r : Int) => XNil x fun a => XSet (a.add 2) (.pointer q) <| XNil x fun a1 => XSet (a1.add 3) (.int .i64 (-1)) <| R
theorem c_index_Index_clear {x : Option Addr} {R : WP} {wd : World} (h : index_Index_clear x R wd) : XCall Pr F_index_Index_clear [.pointer x] (.tup []) [] R wd :=
  xcall_of nogor mixed (f := F_index_Index_clear) (fn := Go.Proofs.Tryz.f111) (dp := []) rfl (by kernel_rfl) (by
    have e : wpF Pr [] (wpDr Pr Go.Proofs.Tryz.f111) Go.Proofs.Tryz.f111 [.pointer x] [] R = index_Index_clear x R := by kernel_rfl
    rw [e]; exact h)

noncomputable def index_Index_put (x : Option Addr) (time : Int) (seq : Int) (R : WP) : WP := XNil x fun a => XGet .ptr (a.add 2) fun (q : Option Addr) => XCall Pr F_tree_Tree_Put [.pointer q, .agg #[.int .i64 time, .int .i64 seq], .int .i64 seq] .one [.bool] <| fun (c : Bool) => XNil x fun a1 => XGet (.int .i64) (a1.add 3) fun (n : Int) => XNil x fun a2 => XSet (a2.add 3) (.int .i64 (if seq > n then seq else n)) <| R
theorem c_index_Index_put {x : Option Addr} {time : Int} {seq : Int} {R : WP} {wd : World} (h : index_Index_put x time seq R wd) : XCall Pr F_index_Index_put [.pointer x, .int .i64 time, .int .i64 seq] (.tup []) [] R wd :=
  xcall_of nogor mixed (f := F_index_Index_put) (fn := Go.Proofs.Tryz.f112) (dp := []) rfl (by kernel_rfl) (by
    have e : wpF Pr [] (wpDr Pr Go.Proofs.Tryz.f112) Go.Proofs.Tryz.f112 [.pointer x, .int .i64 time, .int .i64 seq] [] R = index_Index_put x time seq R := by kernel_rfl
    rw [e]; exact h)

noncomputable def ref12_Device_Find (d : Option Addr) (name : ByteArray) (R : Int → WP) : WP := XLoop [.int .i64] (fun (K' : Int → WP) (i : Int) => XNil d fun a => XGet .slice (a.add 3) fun s => XIf (decide (i < ((s.n : Int)))) (XNil d fun a1 => XGet .slice (a1.add 3) fun s1 => XIdx s1.p s1.n i 3 fun a2 => XGet .str a2 fun (t : ByteArray) => XIf (t.toList == name.toList) (R i) (K' (IntKind.i64.wrap (i + 1)))) (R (-1))) 0
theorem c_ref12_Device_Find {d : Option Addr} {name : ByteArray} {R : Int → WP} {wd : World} (h : ref12_Device_Find d name R wd) : XCall Pr F_ref12_Device_Find [.pointer d, .string name] .one [.int .i64] R wd :=
  xcall_of nogor mixed (f := F_ref12_Device_Find) (fn := Go.Proofs.Tryz.f113) (dp := [4]) rfl (by kernel_rfl) (by
    have e : wpF Pr [4] (wpDr Pr Go.Proofs.Tryz.f113) Go.Proofs.Tryz.f113 [.pointer d, .string name] [.int .i64] R = ref12_Device_Find d name R := by kernel_rfl
    rw [e]; exact h)

noncomputable def ref12_Device_Remove (d : Option Addr) (name : ByteArray) (R : Int → WP) : WP := XCall Pr F_ref12_Device_there [.pointer d, .string name] (.tup [none, none]) [.int .i64, .int .i64] <| fun (r : Int) (r1 : Int) => XIf (r1 != 0) (R r1) (XCall Pr F_ref12_Device_Done [.pointer d] .one [.bool] <| fun (c : Bool) => XIf (!c) (R 10) (XCall Pr F_ref12_Device_Take [.pointer d, .int .i64 r] (.tup []) [] <| R 0))
theorem c_ref12_Device_Remove {d : Option Addr} {name : ByteArray} {R : Int → WP} {wd : World} (h : ref12_Device_Remove d name R wd) : XCall Pr F_ref12_Device_Remove [.pointer d, .string name] .one [.int .i64] R wd :=
  xcall_of nogor mixed (f := F_ref12_Device_Remove) (fn := Go.Proofs.Tryz.f114) (dp := [4]) rfl (by kernel_rfl) (by
    have e : wpF Pr [4] (wpDr Pr Go.Proofs.Tryz.f114) Go.Proofs.Tryz.f114 [.pointer d, .string name] [.int .i64] R = ref12_Device_Remove d name R := by kernel_rfl
    rw [e]; exact h)

noncomputable def ref14_Head (d : Option Addr) (R : Int → Int → Int → WP) : WP := XCall Pr F_ref12_Device_Find [.pointer d, .string ((⟨#[104, 101, 97, 100]⟩ : ByteArray))] .one [.int .i64] <| fun (r : Int) => XIf (decide (r < 0)) (R 1 0 0) (XCall Pr F_ref12_Device_Read [.pointer d, .string ((⟨#[104, 101, 97, 100]⟩ : ByteArray))] (.tup [none, none]) [.slice, .int .i64] <| fun s (r1 : Int) => XCall Pr F_ref13_Get [s.v] (.tup [none, none, none]) [.slice, .int .i64, .int .i64] <| fun s1 (r2 : Int) (r3 : Int) => XIf (((r3 != 0) || (r2 != ((s.n : Int)))) || (((s1.n : Int)) != 16)) (R 0 0 30) (XCall Pr F_ref02_Get [s1.v, .int .i64 0, .int .i64 8] (.tup [none, none]) [.int .u64, .int .i64] <| fun (r4 : Int) (r5 : Int) => XCall Pr F_ref02_Get [s1.v, .int .i64 8, .int .i64 8] (.tup [none, none]) [.int .u64, .int .i64] <| fun (r6 : Int) (r7 : Int) => XIf (((decide (r4 < 1)) || (decide (r4 > 999999999999))) || (decide (r6 > 1099511627776))) (R 0 0 30) (R (IntKind.i64.wrap (r4)) (IntKind.i64.wrap (r6)) 0)))
theorem c_ref14_Head {d : Option Addr} {R : Int → Int → Int → WP} {wd : World} (h : ref14_Head d R wd) : XCall Pr F_ref14_Head [.pointer d] (.tup [none, none, none]) [.int .i64, .int .i64, .int .i64] R wd :=
  xcall_of nogor mixed (f := F_ref14_Head) (fn := Go.Proofs.Tryz.f115) (dp := [2, 3, 4]) rfl (by kernel_rfl) (by
    have e : wpF Pr [2, 3, 4] (wpDr Pr Go.Proofs.Tryz.f115) Go.Proofs.Tryz.f115 [.pointer d] [.int .i64, .int .i64, .int .i64] R = ref14_Head d R := by kernel_rfl
    rw [e]; exact h)

noncomputable def ref14_Log_read (l : Option Addr) (R : Int → WP) : WP := XLoop [] (fun K'  => XDraw <| XNil l fun a => XGet (.int .i64) (a.add 1) fun (n : Int) => XNil l fun a1 => XGet .slice (a1.add 3) fun s => XCall Pr F_ref14_Name [.int .i64 (IntKind.i64.wrap (n + ((s.n : Int))))] .one [.str] <| fun (t : ByteArray) => XNil l fun a2 => XGet .ptr a2 fun (q : Option Addr) => XCall Pr F_ref12_Device_Find [.pointer q, .string t] .one [.int .i64] <| fun (r : Int) => XIf (decide (r < 0)) (R 0) (XNil l fun a3 => XGet .ptr a3 fun (q1 : Option Addr) => XCall Pr F_ref12_Device_Read [.pointer q1, .string t] (.tup [none, none]) [.slice, .int .i64] <| fun s1 (r1 : Int) => XCall Pr F_ref13_Scan [s1.v] (.tup [none, none]) [.slice, .int .i64] <| fun s2 (r2 : Int) => XJoin [] (fun K'1 => XIf (decide (r2 < ((s1.n : Int)))) (XNil l fun a4 => XGet .ptr a4 fun (q2 : Option Addr) => XCall Pr F_ref12_Device_Truncate [.pointer q2, .string t, .int .i64 r2] .one [.int .i64] <| fun (r3 : Int) => XIf (r3 != 0) (R r3) (K'1)) (K'1)) <| XNil l fun a5 => XGet .ptr a5 fun (q3 : Option Addr) => XCall Pr F_ref12_Device_Sync [.pointer q3, .string t] .one [.int .i64] <| fun (r4 : Int) => XIf (r4 != 0) (R r4) (XDraw <| XNil l fun a6 => XGet .slice (a6.add 3) fun s3 => XNil l fun a7 => XGet (.int .i64) (a7.add 1) fun (n1 : Int) => XNil l fun a8 => XGet .slice (a8.add 3) fun s4 => XNew [.int .i64 (IntKind.i64.wrap (n1 + ((s4.n : Int)))), .int .i64 r2, s2.v] T_outstationref14_Segment fun b => XApp Pr T_L_outstationref14_Segment T_L_outstationref14_Segment T_L_outstationref14_Segment (s3.v) (.slice ((some ⟨b, 0, none⟩)) 1 1) fun s5 => XNil l fun a9 => XSet (a9.add 3) (s5.v) <| XIf (decide (r2 < ((s1.n : Int)))) (R 0) (K')))) 
theorem c_ref14_Log_read {l : Option Addr} {R : Int → WP} {wd : World} (h : ref14_Log_read l R wd) : XCall Pr F_ref14_Log_read [.pointer l] .one [.int .i64] R wd :=
  xcall_of nogor mixed (f := F_ref14_Log_read) (fn := Go.Proofs.Tryz.f116) (dp := [2]) rfl (by kernel_rfl) (by
    have e : wpF Pr [2] (wpDr Pr Go.Proofs.Tryz.f116) Go.Proofs.Tryz.f116 [.pointer l] [.int .i64] R = ref14_Log_read l R := by kernel_rfl
    rw [e]; exact h)

noncomputable def ref12_Device_Names (d : Option Addr) (R : Sl → WP) : WP := XLoop [.slice, .int .i64] (fun (K' : Sl → Int → WP) out (i : Int) => XNil d fun a => XGet .slice (a.add 3) fun s => XIf (decide (i < ((s.n : Int)))) (XNil d fun a1 => XGet .slice (a1.add 3) fun s1 => XIdx s1.p s1.n i 3 fun a2 => XGet .str a2 fun (t : ByteArray) => XNew [.string t] T_string fun b => XApp Pr T_L_string T_L_string T_L_string (out.v) (.slice ((some ⟨b, 0, none⟩)) 1 1) fun s2 => K' s2 (IntKind.i64.wrap (i + 1))) (R out)) ⟨none, 0, 0⟩ 0
theorem c_ref12_Device_Names {d : Option Addr} {R : Sl → WP} {wd : World} (h : ref12_Device_Names d R wd) : XCall Pr F_ref12_Device_Names [.pointer d] .one [.slice] R wd :=
  xcall_of nogor mixed (f := F_ref12_Device_Names) (fn := Go.Proofs.Tryz.f117) (dp := [2]) rfl (by kernel_rfl) (by
    have e : wpF Pr [2] (wpDr Pr Go.Proofs.Tryz.f117) Go.Proofs.Tryz.f117 [.pointer d] [.slice] R = ref12_Device_Names d R := by kernel_rfl
    rw [e]; exact h)

noncomputable def ref14_IsFile (s : ByteArray) (R : Bool → WP) : WP := XJoin [.bool] (fun (K' : Bool → WP) => XIf ((decide (((s.size : Int)) < 5)) || (decide (((s.size : Int)) > 16))) (K' true) (XSub s 0 4 fun t => K' (!(t.toList == ((⟨#[108, 111, 103, 45]⟩ : ByteArray)).toList)))) fun (c : Bool) => XJoin [.bool] (fun (K'1 : Bool → WP) => XIf c (K'1 true) (XByte s 4 fun (y : Int) => K'1 (y == 48))) fun (c1 : Bool) => XIf c1 (R false) (XLoop [.int .i64] (fun (K'2 : Int → WP) (i : Int) => XIf (decide (i < ((s.size : Int)))) (XByte s i fun (y1 : Int) => XJoin [.bool] (fun (K'3 : Bool → WP) => XIf (decide (y1 < 48)) (K'3 true) (XByte s i fun (y2 : Int) => K'3 (decide (y2 > 57)))) fun (c2 : Bool) => XIf c2 (R false) (K'2 (IntKind.i64.wrap (i + 1)))) (R true)) 4)
theorem c_ref14_IsFile {s : ByteArray} {R : Bool → WP} {wd : World} (h : ref14_IsFile s R wd) : XCall Pr F_ref14_IsFile [.string s] .one [.bool] R wd :=
  xcall_of nogor mixed (f := F_ref14_IsFile) (fn := Go.Proofs.Tryz.f118) (dp := [2]) rfl (by kernel_rfl) (by
    have e : wpF Pr [2] (wpDr Pr Go.Proofs.Tryz.f118) Go.Proofs.Tryz.f118 [.string s] [.bool] R = ref14_IsFile s R := by kernel_rfl
    rw [e]; exact h)

noncomputable def ref14_Name (n : Int) (R : ByteArray → WP) : WP := XCall Pr F_ref14_Digits [.int .i64 n] .one [.str] <| fun (t : ByteArray) => XAsrt (((⟨#[108, 111, 103, 45]⟩ : ByteArray)).size + t.size ≤ 9223372036854775807) <| R (((⟨#[108, 111, 103, 45]⟩ : ByteArray)) ++ t)
theorem c_ref14_Name {n : Int} {R : ByteArray → WP} {wd : World} (h : ref14_Name n R wd) : XCall Pr F_ref14_Name [.int .i64 n] .one [.str] R wd :=
  xcall_of nogor mixed (f := F_ref14_Name) (fn := Go.Proofs.Tryz.f119) (dp := [2]) rfl (by kernel_rfl) (by
    have e : wpF Pr [2] (wpDr Pr Go.Proofs.Tryz.f119) Go.Proofs.Tryz.f119 [.int .i64 n] [.str] R = ref14_Name n R := by kernel_rfl
    rw [e]; exact h)

noncomputable def ref14_Log_Next (l : Option Addr) (R : Int → WP) : WP := XNil l fun a => XGet (.int .i64) (a.add 2) fun (n : Int) => XLoop [.int .i64, .int .i64] (fun (K' : Int → Int → WP) (n1 : Int) (i : Int) => XNil l fun a1 => XGet .slice (a1.add 3) fun s => XIf (decide (i < ((s.n : Int)))) (XNil l fun a2 => XGet .slice (a2.add 3) fun s1 => XIdx s1.p s1.n i 3 fun a3 => XGet .slice (a3.add 2) fun s2 => K' (IntKind.i64.wrap (n1 + ((s2.n : Int)))) (IntKind.i64.wrap (i + 1))) (R n1)) n 0
theorem c_ref14_Log_Next {l : Option Addr} {R : Int → WP} {wd : World} (h : ref14_Log_Next l R wd) : XCall Pr F_ref14_Log_Next [.pointer l] .one [.int .i64] R wd :=
  xcall_of nogor mixed (f := F_ref14_Log_Next) (fn := Go.Proofs.Tryz.f120) (dp := [2]) rfl (by kernel_rfl) (by
    have e : wpF Pr [2] (wpDr Pr Go.Proofs.Tryz.f120) Go.Proofs.Tryz.f120 [.pointer l] [.int .i64] R = ref14_Log_Next l R := by kernel_rfl
    rw [e]; exact h)

noncomputable def ref13_Put (p : Sl) (R : Sl → Int → WP) : WP := XIf (decide (((p.n : Int)) > 1024)) (R ⟨none, 0, 0⟩ 2) (XAsrt (256 ≠ (0 : Int)) <| XAsrt (256 ≠ (0 : Int)) <| XNew [.int .u8 (IntKind.u8.wrap (IntKind.i64.wrap (((p.n : Int)).tdiv 256))), .int .u8 (IntKind.u8.wrap (((p.n : Int)).tmod 256))] T_uint8 fun b => XCall Pr F_ref01_Crc32 [.slice ((some ⟨b, 0, none⟩)) 2 2] .one [.int .u32] <| fun (r : Int) => XCall Pr F_ref01_More32 [.int .u32 r, p.v] .one [.int .u32] <| fun (r1 : Int) => XAsrt ((0 : Int) ≤ 24) <| XAsrt ((0 : Int) ≤ 16) <| XAsrt ((0 : Int) ≤ 8) <| XNew [.int .u8 (IntKind.u8.wrap (Int.fdiv r1 (2 ^ (min (Int.toNat 24) 32)))), .int .u8 (IntKind.u8.wrap (Int.fdiv r1 (2 ^ (min (Int.toNat 16) 32)))), .int .u8 (IntKind.u8.wrap (Int.fdiv r1 (2 ^ (min (Int.toNat 8) 32)))), .int .u8 (IntKind.u8.wrap (r1))] T_uint8 fun b1 => XApp Pr T_L_uint8 T_L_uint8 T_L_uint8 (.slice ((some ⟨b, 0, none⟩)) 2 2) (.slice ((some ⟨b1, 0, none⟩)) 4 4) fun s => XApp Pr T_L_uint8 T_L_uint8 T_L_uint8 (s.v) (p.v) fun s1 => R s1 0)
theorem c_ref13_Put {p : Sl} {R : Sl → Int → WP} {wd : World} (h : ref13_Put p R wd) : XCall Pr F_ref13_Put [p.v] (.tup [none, none]) [.slice, .int .i64] R wd :=
  xcall_of nogor mixed (f := F_ref13_Put) (fn := Go.Proofs.Tryz.f121) (dp := [2, 3]) rfl (by kernel_rfl) (by
    have e : wpF Pr [2, 3] (wpDr Pr Go.Proofs.Tryz.f121) Go.Proofs.Tryz.f121 [p.v] [.slice, .int .i64] R = ref13_Put p R := by kernel_rfl
    rw [e]; exact h)

noncomputable def ref12_Device_Append (d : Option Addr) (name : ByteArray) (b : Sl) (R : Int → WP) : WP := XCall Pr F_ref12_Named [.string name] .one [.bool] <| fun (c : Bool) => XIf (!c) (R 8) (XNil d fun a => XGet .bool (a.add 2) fun (c1 : Bool) => XIf c1 (R 10) (XCall Pr F_ref12_Device_Find [.pointer d, .string name] .one [.int .i64] <| fun (r : Int) => XJoin [.bool] (fun (K' : Bool → WP) => XIf (decide (r < 0)) (XNil d fun a1 => XGet .slice (a1.add 3) fun s => K' (((s.n : Int)) == 64)) (K' false)) fun (c2 : Bool) => XJoin [.bool] (fun (K'1 : Bool → WP) => XIf c2 (K'1 true) (XCall Pr F_ref12_Device_Free [.pointer d] .one [.int .i64] <| fun (r1 : Int) => K'1 (decide (((b.n : Int)) > r1)))) fun (c3 : Bool) => XIf c3 (R 9) (XCall Pr F_ref12_Device_Done [.pointer d] .one [.bool] <| fun (c4 : Bool) => XIf (!c4) (R 10) (XJoin [.int .i64] (fun (K'2 : Int → WP) => XIf (decide (r < 0)) (XCall Pr F_ref12_Device_Put [.pointer d, .agg #[.string name, .slice none 0 0, .int .i64 0]] (.tup []) [] <| XCall Pr F_ref12_Device_Find [.pointer d, .string name] .one [.int .i64] <| fun (r2 : Int) => K'2 r2) (K'2 r)) <| fun (k : Int) => XNil d fun a2 => XGet .slice (a2.add 3) fun s1 => XIdx s1.p s1.n k 3 fun a3 => XGet .slice (a3.add 1) fun s2 => XCall Pr F_kit_CopyBytes [s2.v] .one [.slice] <| fun s3 => XDraw <| XNil d fun a4 => XGet .slice (a4.add 3) fun s4 => XApp Pr T_L_uint8 T_L_uint8 T_L_uint8 (s3.v) (b.v) fun s5 => XChk (a4.add 3) (s4.v) <| XIdx s4.p s4.n k 3 fun a5 => XSet (a5.add 1) (s5.v) <| R 0))))
theorem c_ref12_Device_Append {d : Option Addr} {name : ByteArray} {b : Sl} {R : Int → WP} {wd : World} (h : ref12_Device_Append d name b R wd) : XCall Pr F_ref12_Device_Append [.pointer d, .string name, b.v] .one [.int .i64] R wd :=
  xcall_of nogor mixed (f := F_ref12_Device_Append) (fn := Go.Proofs.Tryz.f122) (dp := [6]) rfl (by kernel_rfl) (by
    have e : wpF Pr [6] (wpDr Pr Go.Proofs.Tryz.f122) Go.Proofs.Tryz.f122 [.pointer d, .string name, b.v] [.int .i64] R = ref12_Device_Append d name b R := by kernel_rfl
    rw [e]; exact h)

noncomputable def kit_CopyBytes (l : Sl) (R : Sl → WP) : WP := XLoop [.slice, .int .i64] (fun (K' : Sl → Int → WP) out (i : Int) => XIf (decide (i < ((l.n : Int)))) (XIdx l.p l.n i 1 fun a => XGet (.int .u8) a fun (y : Int) => XNew [.int .u8 y] T_uint8 fun b => XApp Pr T_L_uint8 T_L_uint8 T_L_uint8 (out.v) (.slice ((some ⟨b, 0, none⟩)) 1 1) fun s => K' s (IntKind.i64.wrap (i + 1))) (R out)) ⟨none, 0, 0⟩ 0
theorem c_kit_CopyBytes {l : Sl} {R : Sl → WP} {wd : World} (h : kit_CopyBytes l R wd) : XCall Pr F_kit_CopyBytes [l.v] .one [.slice] R wd :=
  xcall_of nogor mixed (f := F_kit_CopyBytes) (fn := Go.Proofs.Tryz.f123) (dp := [2]) rfl (by kernel_rfl) (by
    have e : wpF Pr [2] (wpDr Pr Go.Proofs.Tryz.f123) Go.Proofs.Tryz.f123 [l.v] [.slice] R = kit_CopyBytes l R := by kernel_rfl
    rw [e]; exact h)

noncomputable def ref12_Device_Sync (d : Option Addr) (name : ByteArray) (R : Int → WP) : WP := XCall Pr F_ref12_Device_there [.pointer d, .string name] (.tup [none, none]) [.int .i64, .int .i64] <| fun (r : Int) (r1 : Int) => XIf (r1 != 0) (R r1) (XCall Pr F_ref12_Device_Done [.pointer d] .one [.bool] <| fun (c : Bool) => XIf (!c) (R 10) (XDraw <| XNil d fun a => XGet .slice (a.add 3) fun s => XNil d fun a1 => XGet .slice (a1.add 3) fun s1 => XIdx s1.p s1.n r 3 fun a2 => XGet .slice (a2.add 1) fun s2 => XIdx s.p s.n r 3 fun a3 => XSet (a3.add 2) (.int .i64 ((s2.n : Int))) <| R 0))
theorem c_ref12_Device_Sync {d : Option Addr} {name : ByteArray} {R : Int → WP} {wd : World} (h : ref12_Device_Sync d name R wd) : XCall Pr F_ref12_Device_Sync [.pointer d, .string name] .one [.int .i64] R wd :=
  xcall_of nogor mixed (f := F_ref12_Device_Sync) (fn := Go.Proofs.Tryz.f124) (dp := [4]) rfl (by kernel_rfl) (by
    have e : wpF Pr [4] (wpDr Pr Go.Proofs.Tryz.f124) Go.Proofs.Tryz.f124 [.pointer d, .string name] [.int .i64] R = ref12_Device_Sync d name R := by kernel_rfl
    rw [e]; exact h)

noncomputable def ref14_Log_lay (l : Option Addr) (n : Int) (first : Int) (R : Int → WP) : WP := XCall Pr F_ref02_Put [.slice none 0 0, .int .u64 (IntKind.u64.wrap (n)), .int .i64 8] (.tup [none, none]) [.slice, .int .i64] <| fun s (r : Int) => XCall Pr F_ref02_Put [s.v, .int .u64 (IntKind.u64.wrap (first)), .int .i64 8] (.tup [none, none]) [.slice, .int .i64] <| fun s1 (r1 : Int) => XCall Pr F_ref13_Put [s1.v] (.tup [none, none]) [.slice, .int .i64] <| fun s2 (r2 : Int) => XNil l fun a => XGet .ptr a fun (q : Option Addr) => XCall Pr F_ref12_Device_Find [.pointer q, .string ((⟨#[104, 101, 97, 100, 46, 110, 101, 119]⟩ : ByteArray))] .one [.int .i64] <| fun (r3 : Int) => XJoin [.bool] (fun (K' : Bool → WP) => XIf (decide (r3 ≥ 0)) (XNil l fun a1 => XGet .ptr a1 fun (q1 : Option Addr) => XCall Pr F_ref12_Device_Remove [.pointer q1, .string ((⟨#[104, 101, 97, 100, 46, 110, 101, 119]⟩ : ByteArray))] .one [.int .i64] <| fun (r4 : Int) => K' (r4 != 0)) (K' false)) fun (c : Bool) => XIf c (R 10) (XNil l fun a2 => XGet .ptr a2 fun (q2 : Option Addr) => XCall Pr F_ref12_Device_Append [.pointer q2, .string ((⟨#[104, 101, 97, 100, 46, 110, 101, 119]⟩ : ByteArray)), s2.v] .one [.int .i64] <| fun (r5 : Int) => XJoin [.int .i64] (fun (K'1 : Int → WP) => XIf (r5 == 0) (XNil l fun a3 => XGet .ptr a3 fun (q3 : Option Addr) => XCall Pr F_ref12_Device_Sync [.pointer q3, .string ((⟨#[104, 101, 97, 100, 46, 110, 101, 119]⟩ : ByteArray))] .one [.int .i64] <| fun (r6 : Int) => K'1 r6) (K'1 r5)) <| fun (e : Int) => XJoin [.int .i64] (fun (K'2 : Int → WP) => XIf (e == 0) (XNil l fun a4 => XGet .ptr a4 fun (q4 : Option Addr) => XCall Pr F_ref12_Device_Rename [.pointer q4, .string ((⟨#[104, 101, 97, 100, 46, 110, 101, 119]⟩ : ByteArray)), .string ((⟨#[104, 101, 97, 100]⟩ : ByteArray))] .one [.int .i64] <| fun (r7 : Int) => K'2 r7) (K'2 e)) <| fun (e1 : Int) => R e1)
theorem c_ref14_Log_lay {l : Option Addr} {n : Int} {first : Int} {R : Int → WP} {wd : World} (h : ref14_Log_lay l n first R wd) : XCall Pr F_ref14_Log_lay [.pointer l, .int .i64 n, .int .i64 first] .one [.int .i64] R wd :=
  xcall_of nogor mixed (f := F_ref14_Log_lay) (fn := Go.Proofs.Tryz.f125) (dp := [6]) rfl (by kernel_rfl) (by
    have e : wpF Pr [6] (wpDr Pr Go.Proofs.Tryz.f125) Go.Proofs.Tryz.f125 [.pointer l, .int .i64 n, .int .i64 first] [.int .i64] R = ref14_Log_lay l n first R := by kernel_rfl
    rw [e]; exact h)

noncomputable def ref14_Log_Get (l : Option Addr) (n : Int) (R : Sl → Int → WP) : WP := XNil l fun a => XGet (.int .i64) (a.add 2) fun (n1 : Int) => XIf (decide (n < n1)) (R ⟨none, 0, 0⟩ 31) (XCall Pr F_ref14_Log_Next [.pointer l] .one [.int .i64] <| fun (r : Int) => XIf (decide (n ≥ r)) (R ⟨none, 0, 0⟩ 6) (XNil l fun a1 => XGet (.int .i64) (a1.add 2) fun (n2 : Int) => XLoop [.int .i64, .int .i64] (fun (K' : Int → Int → WP) (n3 : Int) (i : Int) => XNil l fun a2 => XGet .slice (a2.add 3) fun s => XIdx s.p s.n i 3 fun a3 => XGet .slice (a3.add 2) fun s1 => XIf (decide (n3 ≥ ((s1.n : Int)))) (XNil l fun a4 => XGet .slice (a4.add 3) fun s2 => XIdx s2.p s2.n i 3 fun a5 => XGet .slice (a5.add 2) fun s3 => K' (IntKind.i64.wrap (n3 - ((s3.n : Int)))) (IntKind.i64.wrap (i + 1))) (XNil l fun a6 => XGet .slice (a6.add 3) fun s4 => XIdx s4.p s4.n i 3 fun a7 => XGet .slice (a7.add 2) fun s5 => XIdx s5.p s5.n n3 1 fun a8 => XGet .slice a8 fun s6 => XCall Pr F_kit_CopyBytes [s6.v] .one [.slice] <| fun s7 => R s7 0)) (IntKind.i64.wrap (n - n2)) 0))
theorem c_ref14_Log_Get {l : Option Addr} {n : Int} {R : Sl → Int → WP} {wd : World} (h : ref14_Log_Get l n R wd) : XCall Pr F_ref14_Log_Get [.pointer l, .int .i64 n] (.tup [none, none]) [.slice, .int .i64] R wd :=
  xcall_of nogor mixed (f := F_ref14_Log_Get) (fn := Go.Proofs.Tryz.f126) (dp := [4, 5]) rfl (by kernel_rfl) (by
    have e : wpF Pr [4, 5] (wpDr Pr Go.Proofs.Tryz.f126) Go.Proofs.Tryz.f126 [.pointer l, .int .i64 n] [.slice, .int .i64] R = ref14_Log_Get l n R := by kernel_rfl
    rw [e]; exact h)
end Go.Cx
