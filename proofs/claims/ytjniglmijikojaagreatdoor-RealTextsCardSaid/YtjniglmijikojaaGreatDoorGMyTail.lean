/- floatBits: the code behind its two labels: its contract. The conditions: the decimal lies at g; the tables lie below g. -/
import Derived.Test.YtjniglmijikojaaGreatDoorGMyShift
namespace Go.Proofs.YtjniglmijikojaaGreatDoor.Text
set_option linter.unusedSimpArgs false
set_option linter.unusedVariables false
open Go.RowKit Go.Lib Go.Proofs.YtjniglmijikojaaGreatDoor.Own Go.Proofs.YtjniglmijikojaaGreatDoorW.PrintWords

/-- The code in the scope. -/
noncomputable def inScope : Code → Code
  | .seq _ b => inScope b
  | .scope c => c
  | c => c
noncomputable def sc87 : Code := inScope ((Tryz.f87.body).getD .skip)
theorem list_of (n : Nat) (l : List Value) (h : l.length = n) : l = (List.range n).map (fun i => l.getD i undef) := by
  refine List.ext_getElem (by simp [h]) fun i h1 h2 => ?_
  simp [List.getD, h1]
theorem act_of (a : Act) (n : Nat) (h : a.tmps.size = n) (hd : a.defers = []) : a = ⟨((List.range n).map (fun i => a.tmps.getD i undef)).toArray, []⟩ := by
  obtain ⟨⟨l⟩, d⟩ := a
  have hd' : d = [] := hd
  subst hd'
  have e : (fun i => (Array.mk l).getD i undef) = fun i => l.getD i undef := by
    funext i
    simp [Array.getD_eq_getD_getElem?, List.getD_eq_getElem?_getD]
  have h2 := list_of n l h
  rw [← e] at h2
  exact congrArg (fun t => Act.mk (Array.mk t) []) h2
/-- What a jump to the end leaves: an exponent, a number. -/
structure Goes0 (g : Nat) (w0 : World) (a : Act) (w : World) : Prop where
  size : a.tmps.size = 243
  df : a.defers = []
  t0 : a.tmps.getD 0 undef = .pointer (some ⟨g, 0, none⟩)
  t1 : a.tmps.getD 1 undef = .pointer (some ⟨6, 0, none⟩)
  t5 : ∃ b, a.tmps.getD 5 undef = .bool b
  t6 : ∃ e : Int, a.tmps.getD 6 undef = .int .i64 e ∧ -3000 ≤ e ∧ e ≤ 3000
  t7 : ∃ m : Int, a.tmps.getD 7 undef = .int .u64 m
  tw : TailW g w0 w

set_option maxRecDepth 100000 in
set_option maxHeartbeats 4000000 in
theorem tail_0 (g : Nat) (w0 w : World) (u : Nat → Value) (ov : Bool) (e m : Int) (he1 : -3000 ≤ e) (he2 : e ≤ 3000) (htw : TailW g w0 w) :
    ∃ rest, findLabel sc87 0 = some rest ∧ rest.wp Tryz.prog (Exit.noGoto (bodyPost Tryz.prog Tryz.f87 (BitRes g w0))) ⟨[.pointer (some ⟨g, 0, none⟩), .pointer (some ⟨6, 0, none⟩), u 2, u 3, u 4, .bool ov, .int .i64 e, .int .u64 m, u 8, u 9, u 10, u 11, u 12, u 13, u 14, u 15, u 16, u 17, u 18, u 19, u 20, u 21, u 22, u 23, u 24, u 25, u 26, u 27, u 28, u 29, u 30, u 31, u 32, u 33, u 34, u 35, u 36, u 37, u 38, u 39, u 40, u 41, u 42, u 43, u 44, u 45, u 46, u 47, u 48, u 49, u 50, u 51, u 52, u 53, u 54, u 55, u 56, u 57, u 58, u 59, u 60, u 61, u 62, u 63, u 64, u 65, u 66, u 67, u 68, u 69, u 70, u 71, u 72, u 73, u 74, u 75, u 76, u 77, u 78, u 79, u 80, u 81, u 82, u 83, u 84, u 85, u 86, u 87, u 88, u 89, u 90, u 91, u 92, u 93, u 94, u 95, u 96, u 97, u 98, u 99, u 100, u 101, u 102, u 103, u 104, u 105, u 106, u 107, u 108, u 109, u 110, u 111, u 112, u 113, u 114, u 115, u 116, u 117, u 118, u 119, u 120, u 121, u 122, u 123, u 124, u 125, u 126, u 127, u 128, u 129, u 130, u 131, u 132, u 133, u 134, u 135, u 136, u 137, u 138, u 139, u 140, u 141, u 142, u 143, u 144, u 145, u 146, u 147, u 148, u 149, u 150, u 151, u 152, u 153, u 154, u 155, u 156, u 157, u 158, u 159, u 160, u 161, u 162, u 163, u 164, u 165, u 166, u 167, u 168, u 169, u 170, u 171, u 172, u 173, u 174, u 175, u 176, u 177, u 178, u 179, u 180, u 181, u 182, u 183, u 184, u 185, u 186, u 187, u 188, u 189, u 190, u 191, u 192, u 193, u 194, u 195, u 196, u 197, u 198, u 199, u 200, u 201, u 202, u 203, u 204, u 205, u 206, u 207, u 208, u 209, u 210, u 211, u 212, u 213, u 214, u 215, u 216, u 217, u 218, u 219, u 220, u 221, u 222, u 223, u 224, u 225, u 226, u 227, u 228, u 229, u 230, u 231, u 232, u 233, u 234, u 235, u 236, u 237, u 238, u 239, u 240, u 241, u 242].toArray, []⟩ w := by
  refine ⟨_, rfl, ?_⟩
  obtain ⟨sg, c3⟩ := htw.neg
  have hlt := htw.lt
  have hfz := htw.fz
  have i0 := htw.i0
  have i1 := htw.i1
  have i2 := htw.i2
  have h6 := htw.h6
  have HB := Aside0.mk htw.bel
  clear htw
  obtain ⟨A, hA⟩ : ∃ A, bits .and .u64 m 4503599627370495 = A := ⟨_, rfl⟩
  obtain ⟨B, hB⟩ : ∃ B, bits .and .i64 (e + 1023) 2047 = B := ⟨_, rfl⟩
  obtain ⟨C0, hC0⟩ : ∃ C0, IntKind.u64.wrap B = C0 := ⟨_, rfl⟩
  obtain ⟨C, hC⟩ : ∃ C, IntKind.u64.wrap (C0 * 4503599627370496) = C := ⟨_, rfl⟩
  obtain ⟨R, hR⟩ : ∃ R, bits .or .u64 A C = R := ⟨_, rfl⟩
  have HR := Aside0.mk (show 0 ≤ R ∧ R < 18446744073709551616 by rw [← hR]; exact bits_rng _ _ _)
  obtain ⟨R2, hR2⟩ : ∃ R2, bits .or .u64 R 9223372036854775808 = R2 := ⟨_, rfl⟩
  have HR2 := Aside0.mk (show 0 ≤ R2 ∧ R2 < 18446744073709551616 by rw [← hR2]; exact bits_rng _ _ _)
  go_wp2
  go_region
  cases sg
  · go_wp2
    rw [Exit.noGoto_ret]
    go_ret2
    exact ⟨⟨R, ov, HR.out.1, HR.out.2, rfl⟩, by first | exact HB.out | exact HB.out.drew | exact HB.out.drew.drew | exact HB.out.drew.drew.drew⟩
  · go_wp2
    go_region
    go_wp2
    rw [Exit.noGoto_ret]
    go_ret2
    exact ⟨⟨R2, ov, HR2.out.1, HR2.out.2, rfl⟩, by first | exact HB.out | exact HB.out.drew | exact HB.out.drew.drew | exact HB.out.drew.drew.drew⟩

set_option maxRecDepth 100000 in
set_option maxHeartbeats 4000000 in
theorem tail_1 (g : Nat) (w0 w : World) (u : Nat → Value) (htw : TailW g w0 w) :
    ∃ rest, findLabel sc87 1 = some rest ∧ rest.wp Tryz.prog (Exit.noGoto (bodyPost Tryz.prog Tryz.f87 (BitRes g w0))) ⟨[.pointer (some ⟨g, 0, none⟩), .pointer (some ⟨6, 0, none⟩), u 2, u 3, u 4, u 5, u 6, u 7, u 8, u 9, u 10, u 11, u 12, u 13, u 14, u 15, u 16, u 17, u 18, u 19, u 20, u 21, u 22, u 23, u 24, u 25, u 26, u 27, u 28, u 29, u 30, u 31, u 32, u 33, u 34, u 35, u 36, u 37, u 38, u 39, u 40, u 41, u 42, u 43, u 44, u 45, u 46, u 47, u 48, u 49, u 50, u 51, u 52, u 53, u 54, u 55, u 56, u 57, u 58, u 59, u 60, u 61, u 62, u 63, u 64, u 65, u 66, u 67, u 68, u 69, u 70, u 71, u 72, u 73, u 74, u 75, u 76, u 77, u 78, u 79, u 80, u 81, u 82, u 83, u 84, u 85, u 86, u 87, u 88, u 89, u 90, u 91, u 92, u 93, u 94, u 95, u 96, u 97, u 98, u 99, u 100, u 101, u 102, u 103, u 104, u 105, u 106, u 107, u 108, u 109, u 110, u 111, u 112, u 113, u 114, u 115, u 116, u 117, u 118, u 119, u 120, u 121, u 122, u 123, u 124, u 125, u 126, u 127, u 128, u 129, u 130, u 131, u 132, u 133, u 134, u 135, u 136, u 137, u 138, u 139, u 140, u 141, u 142, u 143, u 144, u 145, u 146, u 147, u 148, u 149, u 150, u 151, u 152, u 153, u 154, u 155, u 156, u 157, u 158, u 159, u 160, u 161, u 162, u 163, u 164, u 165, u 166, u 167, u 168, u 169, u 170, u 171, u 172, u 173, u 174, u 175, u 176, u 177, u 178, u 179, u 180, u 181, u 182, u 183, u 184, u 185, u 186, u 187, u 188, u 189, u 190, u 191, u 192, u 193, u 194, u 195, u 196, u 197, u 198, u 199, u 200, u 201, u 202, u 203, u 204, u 205, u 206, u 207, u 208, u 209, u 210, u 211, u 212, u 213, u 214, u 215, u 216, u 217, u 218, u 219, u 220, u 221, u 222, u 223, u 224, u 225, u 226, u 227, u 228, u 229, u 230, u 231, u 232, u 233, u 234, u 235, u 236, u 237, u 238, u 239, u 240, u 241, u 242].toArray, []⟩ w := by
  refine ⟨_, rfl, ?_⟩
  obtain ⟨sg, c3⟩ := htw.neg
  have hlt := htw.lt
  have hfz := htw.fz
  have i0 := htw.i0
  have i1 := htw.i1
  have i2 := htw.i2
  have h6 := htw.h6
  have HB := Aside0.mk htw.bel
  clear htw
  go_wp2
  go_region
  go_wp2
  go_step3
  obtain ⟨A, hA⟩ : ∃ A, bits .and .u64 0 4503599627370495 = A := ⟨_, rfl⟩
  obtain ⟨B, hB⟩ : ∃ B, bits .and .i64 (2047) 2047 = B := ⟨_, rfl⟩
  obtain ⟨C0, hC0⟩ : ∃ C0, IntKind.u64.wrap B = C0 := ⟨_, rfl⟩
  obtain ⟨C, hC⟩ : ∃ C, IntKind.u64.wrap (C0 * 4503599627370496) = C := ⟨_, rfl⟩
  obtain ⟨R, hR⟩ : ∃ R, bits .or .u64 A C = R := ⟨_, rfl⟩
  have HR := Aside0.mk (show 0 ≤ R ∧ R < 18446744073709551616 by rw [← hR]; exact bits_rng _ _ _)
  obtain ⟨R2, hR2⟩ : ∃ R2, bits .or .u64 R 9223372036854775808 = R2 := ⟨_, rfl⟩
  have HR2 := Aside0.mk (show 0 ≤ R2 ∧ R2 < 18446744073709551616 by rw [← hR2]; exact bits_rng _ _ _)
  go_wp2
  go_region
  cases sg
  · go_wp2
    rw [Exit.noGoto_ret]
    go_ret2
    exact ⟨⟨R, true, HR.out.1, HR.out.2, rfl⟩, by first | exact HB.out | exact HB.out.drew | exact HB.out.drew.drew | exact HB.out.drew.drew.drew⟩
  · go_wp2
    go_region
    go_wp2
    rw [Exit.noGoto_ret]
    go_ret2
    exact ⟨⟨R2, true, HR2.out.1, HR2.out.2, rfl⟩, by first | exact HB.out | exact HB.out.drew | exact HB.out.drew.drew | exact HB.out.drew.drew.drew⟩

/-- What a jump to 'overflow' leaves. -/
structure Goes1 (g : Nat) (w0 : World) (a : Act) (w : World) : Prop where
  size : a.tmps.size = 243
  df : a.defers = []
  t0 : a.tmps.getD 0 undef = .pointer (some ⟨g, 0, none⟩)
  t1 : a.tmps.getD 1 undef = .pointer (some ⟨6, 0, none⟩)
  tw : TailW g w0 w
set_option maxRecDepth 100000 in
theorem goes_0 {g : Nat} {w0 w : World} {a : Act} (h : Goes0 g w0 a w) : ∃ rest, findLabel sc87 0 = some rest ∧ rest.wp Tryz.prog (Exit.noGoto (bodyPost Tryz.prog Tryz.f87 (BitRes g w0))) a w := by
  obtain ⟨hs, hd, t0, t1, ⟨b, t5⟩, ⟨e, t6, e1, e2⟩, ⟨m, t7⟩, tw⟩ := h
  have key := tail_0 g w0 w (fun i => a.tmps.getD i undef) b e m e1 e2 tw
  rw [act_of a 243 hs hd]
  rw [← t0, ← t1, ← t5, ← t6, ← t7] at key
  exact key
set_option maxRecDepth 100000 in
theorem goes_1 {g : Nat} {w0 w : World} {a : Act} (h : Goes1 g w0 a w) : ∃ rest, findLabel sc87 1 = some rest ∧ rest.wp Tryz.prog (Exit.noGoto (bodyPost Tryz.prog Tryz.f87 (BitRes g w0))) a w := by
  obtain ⟨hs, hd, t0, t1, tw⟩ := h
  have key := tail_1 g w0 w (fun i => a.tmps.getD i undef) tw
  rw [act_of a 243 hs hd]
  rw [← t0, ← t1] at key
  exact key
end Go.Proofs.YtjniglmijikojaaGreatDoor.Text
