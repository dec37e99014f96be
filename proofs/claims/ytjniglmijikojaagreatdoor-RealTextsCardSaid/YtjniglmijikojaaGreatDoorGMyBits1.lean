/- floatBits of a decimal that is not nought: its contract. The conditions: as in MyBits. -/
import Derived.Test.YtjniglmijikojaaGreatDoorGMyTail
namespace Go.Proofs.YtjniglmijikojaaGreatDoor.Text
set_option linter.unusedSimpArgs false
set_option linter.unusedVariables false
open Go.RowKit Go.Lib Go.Proofs.YtjniglmijikojaaGreatDoor.Own Go.Proofs.YtjniglmijikojaaGreatDoorW.PrintWords

/-- What is known of the jumps. -/
structure Jumps (g : Nat) (w0 : World) (J : Exit → Act → World → Prop) : Prop where
  go : (∀ a w, Goes0 g w0 a w → J (.goto 0) a w) ∧ (∀ a w, Goes1 g w0 a w → J (.goto 1) a w)
theorem bits_scope {g : Nat} {w0 w : World} {a : Act} {c : Code} (hc : c = sc87) (first : ∀ J : Exit → Act → World → Prop, Jumps g w0 J → c.wp Tryz.prog J a w) :
    (Code.scope c).wp Tryz.prog (bodyPost Tryz.prog Tryz.f87 (BitRes g w0)) a w := by
  subst hc
  exact wp_scope_hid fun J hJ => first J ⟨fun a w h => hJ 0 a w (goes_0 h), fun a w h => hJ 1 a w (goes_1 h)⟩
/-- The code behind n statements. -/
noncomputable def dropS : Nat → Code → Option Code
  | 0, c => some c
  | n + 1, .seq _ b => dropS n b
  | _, _ => none
theorem go_on {n : Nat} {c B : Code} {P : Program} {J : Exit → Act → World → Prop} {a : Act} {w : World} (hB : dropS n c = some B) (h : ∃ rest, dropS n c = some rest ∧ rest.wp P J a w) : B.wp P J a w := by
  obtain ⟨r, hr, hw⟩ := h
  rw [hB] at hr
  cases hr
  exact hw
structure Slots (g : Nat) (a : Act) : Prop where
  size : a.tmps.size = 243
  df : a.defers = []
  t0 : a.tmps.getD 0 undef = .pointer (some ⟨g, 0, none⟩)
  t1 : a.tmps.getD 1 undef = .pointer (some ⟨6, 0, none⟩)
  t5 : a.tmps.getD 5 undef = .bool false
set_option maxRecDepth 100000 in
set_option maxHeartbeats 4000000 in
theorem bits_p6_u (g : Nat) (w0 w : World) (J : Exit → Act → World → Prop) (HGo : Jumps g w0 J) (u : Nat → Value) (e2 m2 : Int) (hx0 : -1022 ≤ e2) (hx1 : e2 ≤ 3000) (htw : TailW g w0 w) :
    ∃ rest, dropS 14 sc87 = some rest ∧ rest.wp Tryz.prog J ⟨[.pointer (some ⟨g, 0, none⟩), .pointer (some ⟨6, 0, none⟩), u 2, u 3, u 4, .bool false, .int .i64 e2, .int .u64 m2, u 8, u 9, u 10, u 11, u 12, u 13, u 14, u 15, u 16, u 17, u 18, u 19, u 20, u 21, u 22, u 23, u 24, u 25, u 26, u 27, u 28, u 29, u 30, u 31, u 32, u 33, u 34, u 35, u 36, u 37, u 38, u 39, u 40, u 41, u 42, u 43, u 44, u 45, u 46, u 47, u 48, u 49, u 50, u 51, u 52, u 53, u 54, u 55, u 56, u 57, u 58, u 59, u 60, u 61, u 62, u 63, u 64, u 65, u 66, u 67, u 68, u 69, u 70, u 71, u 72, u 73, u 74, u 75, u 76, u 77, u 78, u 79, u 80, u 81, u 82, u 83, u 84, u 85, u 86, u 87, u 88, u 89, u 90, u 91, u 92, u 93, u 94, u 95, u 96, u 97, u 98, u 99, u 100, u 101, u 102, u 103, u 104, u 105, u 106, u 107, u 108, u 109, u 110, u 111, u 112, u 113, u 114, u 115, u 116, u 117, u 118, u 119, u 120, u 121, u 122, u 123, u 124, u 125, u 126, u 127, u 128, u 129, u 130, u 131, u 132, u 133, u 134, u 135, u 136, u 137, u 138, u 139, u 140, u 141, u 142, u 143, u 144, u 145, u 146, u 147, u 148, u 149, u 150, u 151, u 152, u 153, u 154, u 155, u 156, u 157, u 158, u 159, u 160, u 161, u 162, u 163, u 164, u 165, u 166, u 167, u 168, u 169, u 170, u 171, u 172, u 173, u 174, u 175, u 176, u 177, u 178, u 179, u 180, u 181, u 182, u 183, u 184, u 185, u 186, u 187, u 188, u 189, u 190, u 191, u 192, u 193, u 194, u 195, u 196, u 197, u 198, u 199, u 200, u 201, u 202, u 203, u 204, u 205, u 206, u 207, u 208, u 209, u 210, u 211, u 212, u 213, u 214, u 215, u 216, u 217, u 218, u 219, u 220, u 221, u 222, u 223, u 224, u 225, u 226, u 227, u 228, u 229, u 230, u 231, u 232, u 233, u 234, u 235, u 236, u 237, u 238, u 239, u 240, u 241, u 242].toArray, []⟩ w := by
  refine ⟨_, rfl, ?_⟩
  obtain ⟨sg, c3⟩ := htw.neg
  have hlt := htw.lt
  have hfz := htw.fz
  have i0 := htw.i0
  have i1 := htw.i1
  have i2 := htw.i2
  have h6 := htw.h6
  have HTW := Aside0.mk htw
  clear htw
  obtain ⟨T, hT⟩ : ∃ T, bits .and .u64 m2 4503599627370496 = T := ⟨_, rfl⟩
  obtain ⟨bT, hbT⟩ : ∃ bT, (T == 0) = bT := ⟨_, rfl⟩
  cases bT
  · go_wp2
    go_step3
    exact HGo.go.1 _ _ ⟨rfl, rfl, rfl, rfl, ⟨_, rfl⟩, ⟨_, rfl, by omega, by omega⟩, ⟨_, rfl⟩, by first | exact HTW.out | exact HTW.out.drew | exact HTW.out.drew.drew⟩
  · go_wp2
    go_step3
    exact HGo.go.1 _ _ ⟨rfl, rfl, rfl, rfl, ⟨_, rfl⟩, ⟨_, rfl, by omega, by omega⟩, ⟨_, rfl⟩, by first | exact HTW.out | exact HTW.out.drew | exact HTW.out.drew.drew⟩

set_option maxRecDepth 100000 in
theorem bits_p6 {g : Nat} {w0 w : World} {J : Exit → Act → World → Prop} {a : Act} (HGo : Jumps g w0 J) {e2 m2 : Int} (hs : Slots g a) (t6 : a.tmps.getD 6 undef = .int .i64 e2) (t7 : a.tmps.getD 7 undef = .int .u64 m2) (hx0 : -1022 ≤ e2) (hx1 : e2 ≤ 3000) (htw : TailW g w0 w) :
    ∃ rest, dropS 14 sc87 = some rest ∧ rest.wp Tryz.prog J a w := by
  have key := bits_p6_u g w0 w J HGo (fun i => a.tmps.getD i undef) e2 m2 hx0 hx1 htw
  rw [act_of a 243 hs.size hs.df]
  rw [← hs.t0, ← hs.t1, ← hs.t5, ← t6, ← t7] at key
  exact key

set_option maxRecDepth 100000 in
set_option maxHeartbeats 4000000 in
theorem bits_p5_u (g : Nat) (w0 w : World) (J : Exit → Act → World → Prop) (HGo : Jumps g w0 J) (u : Nat → Value) (e1 m : Int) (hx0 : -1022 ≤ e1) (hx1 : e1 < 1024) (htw : TailW g w0 w) :
    ∃ rest, dropS 13 sc87 = some rest ∧ rest.wp Tryz.prog J ⟨[.pointer (some ⟨g, 0, none⟩), .pointer (some ⟨6, 0, none⟩), u 2, u 3, u 4, .bool false, .int .i64 e1, .int .u64 m, u 8, u 9, u 10, u 11, u 12, u 13, u 14, u 15, u 16, u 17, u 18, u 19, u 20, u 21, u 22, u 23, u 24, u 25, u 26, u 27, u 28, u 29, u 30, u 31, u 32, u 33, u 34, u 35, u 36, u 37, u 38, u 39, u 40, u 41, u 42, u 43, u 44, u 45, u 46, u 47, u 48, u 49, u 50, u 51, u 52, u 53, u 54, u 55, u 56, u 57, u 58, u 59, u 60, u 61, u 62, u 63, u 64, u 65, u 66, u 67, u 68, u 69, u 70, u 71, u 72, u 73, u 74, u 75, u 76, u 77, u 78, u 79, u 80, u 81, u 82, u 83, u 84, u 85, u 86, u 87, u 88, u 89, u 90, u 91, u 92, u 93, u 94, u 95, u 96, u 97, u 98, u 99, u 100, u 101, u 102, u 103, u 104, u 105, u 106, u 107, u 108, u 109, u 110, u 111, u 112, u 113, u 114, u 115, u 116, u 117, u 118, u 119, u 120, u 121, u 122, u 123, u 124, u 125, u 126, u 127, u 128, u 129, u 130, u 131, u 132, u 133, u 134, u 135, u 136, u 137, u 138, u 139, u 140, u 141, u 142, u 143, u 144, u 145, u 146, u 147, u 148, u 149, u 150, u 151, u 152, u 153, u 154, u 155, u 156, u 157, u 158, u 159, u 160, u 161, u 162, u 163, u 164, u 165, u 166, u 167, u 168, u 169, u 170, u 171, u 172, u 173, u 174, u 175, u 176, u 177, u 178, u 179, u 180, u 181, u 182, u 183, u 184, u 185, u 186, u 187, u 188, u 189, u 190, u 191, u 192, u 193, u 194, u 195, u 196, u 197, u 198, u 199, u 200, u 201, u 202, u 203, u 204, u 205, u 206, u 207, u 208, u 209, u 210, u 211, u 212, u 213, u 214, u 215, u 216, u 217, u 218, u 219, u 220, u 221, u 222, u 223, u 224, u 225, u 226, u 227, u 228, u 229, u 230, u 231, u 232, u 233, u 234, u 235, u 236, u 237, u 238, u 239, u 240, u 241, u 242].toArray, []⟩ w := by
  refine ⟨_, rfl, ?_⟩
  obtain ⟨sg, c3⟩ := htw.neg
  have hlt := htw.lt
  have hfz := htw.fz
  have i0 := htw.i0
  have i1 := htw.i1
  have i2 := htw.i2
  have h6 := htw.h6
  have HTW := Aside0.mk htw
  clear htw
  apply wp_seq_k
  intro K hK
  have HK := Aside0.mk hK
  clear hK
  by_cases h5 : m = 9007199254740992
  · subst h5
    rcases Int.lt_or_le (e1 + 1) 1024 with h7 | h7
    · have r1 := eq_false (show ¬ (2047 : Int) ≤ e1 + 1 + 1023 by omega)
      go_wp2
      go_region
      go_wp2
      refine HK.out _ _ (go_on (n := 14) (c := sc87) rfl ?_)
      exact bits_p6 HGo ⟨rfl, rfl, rfl, rfl, rfl⟩ rfl rfl (by omega) (by omega) (by first | exact HTW.out | exact HTW.out.drew | exact HTW.out.drew.drew)
    · have r1 := eq_true (show (2047 : Int) ≤ e1 + 1 + 1023 by omega)
      go_wp2
      go_region
      go_wp2
      go_step3
      exact HGo.go.2 _ _ ⟨rfl, rfl, rfl, rfl, by first | exact HTW.out | exact HTW.out.drew | exact HTW.out.drew.drew⟩
  · have r1 : (m == 9007199254740992) = false := beq_eq_false_iff_ne.2 h5
    go_wp2
    refine HK.out _ _ (go_on (n := 14) (c := sc87) rfl ?_)
    exact bits_p6 HGo ⟨rfl, rfl, rfl, rfl, rfl⟩ rfl rfl (by omega) (by omega) (by first | exact HTW.out | exact HTW.out.drew | exact HTW.out.drew.drew)

set_option maxRecDepth 100000 in
theorem bits_p5 {g : Nat} {w0 w : World} {J : Exit → Act → World → Prop} {a : Act} (HGo : Jumps g w0 J) {e1 m : Int} (hs : Slots g a) (t6 : a.tmps.getD 6 undef = .int .i64 e1) (t7 : a.tmps.getD 7 undef = .int .u64 m) (hx0 : -1022 ≤ e1) (hx1 : e1 < 1024) (htw : TailW g w0 w) :
    ∃ rest, dropS 13 sc87 = some rest ∧ rest.wp Tryz.prog J a w := by
  have key := bits_p5_u g w0 w J HGo (fun i => a.tmps.getD i undef) e1 m hx0 hx1 htw
  rw [act_of a 243 hs.size hs.df]
  rw [← hs.t0, ← hs.t1, ← hs.t5, ← t6, ← t7] at key
  exact key

set_option maxRecDepth 100000 in
set_option maxHeartbeats 4000000 in
theorem bits_p4_u (g : Nat) (w0 w : World) (J : Exit → Act → World → Prop) (HGo : Jumps g w0 J) (u : Nat → Value) (e1 : Int) (f1 : Nat → Int) (n1 : Nat) (d1 : Int) (he0 : -1022 ≤ e1) (he1 : e1 ≤ 20000) (hd : Fine w g f1 n1 d1) (hd1 : -100000 ≤ d1) (hd2 : d1 ≤ 30) (ht : TabG g w0) (hb : Below g w0 w) :
    ∃ rest, dropS 10 sc87 = some rest ∧ rest.wp Tryz.prog J ⟨[.pointer (some ⟨g, 0, none⟩), .pointer (some ⟨6, 0, none⟩), u 2, u 3, u 4, .bool false, .int .i64 e1, u 7, u 8, u 9, u 10, u 11, u 12, u 13, u 14, u 15, u 16, u 17, u 18, u 19, u 20, u 21, u 22, u 23, u 24, u 25, u 26, u 27, u 28, u 29, u 30, u 31, u 32, u 33, u 34, u 35, u 36, u 37, u 38, u 39, u 40, u 41, u 42, u 43, u 44, u 45, u 46, u 47, u 48, u 49, u 50, u 51, u 52, u 53, u 54, u 55, u 56, u 57, u 58, u 59, u 60, u 61, u 62, u 63, u 64, u 65, u 66, u 67, u 68, u 69, u 70, u 71, u 72, u 73, u 74, u 75, u 76, u 77, u 78, u 79, u 80, u 81, u 82, u 83, u 84, u 85, u 86, u 87, u 88, u 89, u 90, u 91, u 92, u 93, u 94, u 95, u 96, u 97, u 98, u 99, u 100, u 101, u 102, u 103, u 104, u 105, u 106, u 107, u 108, u 109, u 110, u 111, u 112, u 113, u 114, u 115, u 116, u 117, u 118, u 119, u 120, u 121, u 122, u 123, u 124, u 125, u 126, u 127, u 128, u 129, u 130, u 131, u 132, u 133, u 134, u 135, u 136, u 137, u 138, u 139, u 140, u 141, u 142, u 143, u 144, u 145, u 146, u 147, u 148, u 149, u 150, u 151, u 152, u 153, u 154, u 155, u 156, u 157, u 158, u 159, u 160, u 161, u 162, u 163, u 164, u 165, u 166, u 167, u 168, u 169, u 170, u 171, u 172, u 173, u 174, u 175, u 176, u 177, u 178, u 179, u 180, u 181, u 182, u 183, u 184, u 185, u 186, u 187, u 188, u 189, u 190, u 191, u 192, u 193, u 194, u 195, u 196, u 197, u 198, u 199, u 200, u 201, u 202, u 203, u 204, u 205, u 206, u 207, u 208, u 209, u 210, u 211, u 212, u 213, u 214, u 215, u 216, u 217, u 218, u 219, u 220, u 221, u 222, u 223, u 224, u 225, u 226, u 227, u 228, u 229, u 230, u 231, u 232, u 233, u 234, u 235, u 236, u 237, u 238, u 239, u 240, u 241, u 242].toArray, []⟩ w := by
  refine ⟨_, rfl, ?_⟩
  have HD := Aside0.mk hd
  have HT := Aside0.mk ht
  have HB := Aside0.mk hb
  have HT1 := Aside0.mk (ht.step hb)
  have hlt := hd.dec.lt
  have hfz := hd.dec.fz
  have i0 := HT1.out.tabs.i0
  have i1 := HT1.out.tabs.i1
  have i2 := HT1.out.tabs.i2
  have h6 : 6 < w.heap.size := by have := HT1.out.tabs.big; omega
  apply wp_seq_k
  intro K hK
  have HK := Aside0.mk hK
  clear hK
  rcases Int.lt_or_le e1 1024 with h3 | h3
  · have q1 := eq_false (show ¬ (2047 : Int) ≤ e1 + 1023 by omega)
    have q1' := eq_false (show ¬ e1 + 1023 ≥ 2047 by omega)
    obtain ⟨dl, sc, hch⟩ := cheat_of 53 (by omega) (by omega)
    have HS := Aside0.mk (fun w5 (hd : Fine w5 g f1 n1 d1) (ht : TabG g w5) => show Calls Tryz.prog 50 #[.pointer (some ⟨g, 0, none⟩), .int .i64 53] w5 (LeftRes g f1 n1 d1 dl w5) from shift_left w5 g f1 n1 d1 53 dl sc (by omega) (by omega) (by omega) (by omega) hd ht hch)
    have HDL := Aside0.mk (dl_le hch)
    clear hd ht hb hch
    go_wp2
    go_region
    go_wp2
    refine HK.out _ _ ?_
    clear HK
    apply wp_seq_k
    intro K hK
    have HK := Aside0.mk hK
    clear hK
    go_wp2_with ((go_at_call 50; refine (HS.out _ (by first | exact HD.out | exact HD.out.drew | exact HD.out.drew.drew) (by first | exact HT1.out | exact tabg_drew HT1.out | exact tabg_drew (tabg_drew HT1.out))).mono ?_); rintro e w5 ⟨rfl, hb5, f5, n5, δ, hf5, s1, s2, s3⟩; have HB5 := Aside0.mk (show Below g w w5 by first | exact hb5 | exact below_drew1 hb5 | exact bdrew_ hb5); have HF5 := Aside0.mk hf5; have S2 := Aside0.mk s2; clear hb5 hf5 s1 s2 s3)
    clear hlt hfz i0 i1 i2 h6
    have HB' := Aside0.mk (HB.out.trans HB5.out)
    have hlt := HF5.out.dec.lt
    have hfz := HF5.out.dec.fz
    refine HK.out _ _ ?_
    clear HK
    apply wp_seq_k
    intro K hK
    have HK := Aside0.mk hK
    clear hK
    go_wp2_with fail
    refine (rounded_any w5 g f5 n5 _ HF5.out (by omega)).mono ?_
    rintro e w6 ⟨⟨m, hm0, hm1, rfl⟩, rfl⟩
    have HTW := Aside0.mk (tailw_of HF5.out HT.out HB'.out)
    go_wp2
    refine HK.out _ _ (go_on (n := 13) (c := sc87) rfl ?_)
    exact bits_p5 HGo ⟨rfl, rfl, rfl, rfl, rfl⟩ rfl rfl he0 h3 (by first | exact HTW.out | exact HTW.out.drew | exact HTW.out.drew.drew)
  · have q1 := eq_true (show (2047 : Int) ≤ e1 + 1023 by omega)
    have q1' := eq_true (show e1 + 1023 ≥ 2047 by omega)
    have HTW := Aside0.mk (tailw_of hd ht hb)
    clear hd ht hb
    go_wp2
    go_region
    go_wp2
    go_step3
    exact HGo.go.2 _ _ ⟨rfl, rfl, rfl, rfl, by first | exact HTW.out | exact HTW.out.drew | exact HTW.out.drew.drew⟩

set_option maxRecDepth 100000 in
theorem bits_p4 {g : Nat} {w0 w : World} {J : Exit → Act → World → Prop} {a : Act} (HGo : Jumps g w0 J) {e1 : Int} {f1 : Nat → Int} {n1 : Nat} {d1 : Int} (hs : Slots g a) (t6 : a.tmps.getD 6 undef = .int .i64 e1) (he0 : -1022 ≤ e1) (he1 : e1 ≤ 20000) (hd : Fine w g f1 n1 d1) (hd1 : -100000 ≤ d1) (hd2 : d1 ≤ 30) (ht : TabG g w0) (hb : Below g w0 w) :
    ∃ rest, dropS 10 sc87 = some rest ∧ rest.wp Tryz.prog J a w := by
  have key := bits_p4_u g w0 w J HGo (fun i => a.tmps.getD i undef) e1 f1 n1 d1 he0 he1 hd hd1 hd2 ht hb
  rw [act_of a 243 hs.size hs.df]
  rw [← hs.t0, ← hs.t1, ← hs.t5, ← t6] at key
  exact key

set_option maxRecDepth 100000 in
set_option maxHeartbeats 4000000 in
theorem bits_p3_u (g : Nat) (w0 w : World) (J : Exit → Act → World → Prop) (HGo : Jumps g w0 J) (u : Nat → Value) (ei : Int) (f1 : Nat → Int) (n1 : Nat) (d1 : Int) (he0 : -100000 ≤ ei) (he1 : ei ≤ 20000) (hd : Fine w g f1 n1 d1) (hd1 : -330 ≤ d1) (hd2 : d1 ≤ 30) (ht : TabG g w0) (hb : Below g w0 w) :
    ∃ rest, dropS 8 sc87 = some rest ∧ rest.wp Tryz.prog J ⟨[.pointer (some ⟨g, 0, none⟩), .pointer (some ⟨6, 0, none⟩), u 2, u 3, u 4, .bool false, .int .i64 ei, u 7, u 8, u 9, u 10, u 11, u 12, u 13, u 14, u 15, u 16, u 17, u 18, u 19, u 20, u 21, u 22, u 23, u 24, u 25, u 26, u 27, u 28, u 29, u 30, u 31, u 32, u 33, u 34, u 35, u 36, u 37, u 38, u 39, u 40, u 41, u 42, u 43, u 44, u 45, u 46, u 47, u 48, u 49, u 50, u 51, u 52, u 53, u 54, u 55, u 56, u 57, u 58, u 59, u 60, u 61, u 62, u 63, u 64, u 65, u 66, u 67, u 68, u 69, u 70, u 71, u 72, u 73, u 74, u 75, u 76, u 77, u 78, u 79, u 80, u 81, u 82, u 83, u 84, u 85, u 86, u 87, u 88, u 89, u 90, u 91, u 92, u 93, u 94, u 95, u 96, u 97, u 98, u 99, u 100, u 101, u 102, u 103, u 104, u 105, u 106, u 107, u 108, u 109, u 110, u 111, u 112, u 113, u 114, u 115, u 116, u 117, u 118, u 119, u 120, u 121, u 122, u 123, u 124, u 125, u 126, u 127, u 128, u 129, u 130, u 131, u 132, u 133, u 134, u 135, u 136, u 137, u 138, u 139, u 140, u 141, u 142, u 143, u 144, u 145, u 146, u 147, u 148, u 149, u 150, u 151, u 152, u 153, u 154, u 155, u 156, u 157, u 158, u 159, u 160, u 161, u 162, u 163, u 164, u 165, u 166, u 167, u 168, u 169, u 170, u 171, u 172, u 173, u 174, u 175, u 176, u 177, u 178, u 179, u 180, u 181, u 182, u 183, u 184, u 185, u 186, u 187, u 188, u 189, u 190, u 191, u 192, u 193, u 194, u 195, u 196, u 197, u 198, u 199, u 200, u 201, u 202, u 203, u 204, u 205, u 206, u 207, u 208, u 209, u 210, u 211, u 212, u 213, u 214, u 215, u 216, u 217, u 218, u 219, u 220, u 221, u 222, u 223, u 224, u 225, u 226, u 227, u 228, u 229, u 230, u 231, u 232, u 233, u 234, u 235, u 236, u 237, u 238, u 239, u 240, u 241, u 242].toArray, []⟩ w := by
  refine ⟨_, rfl, ?_⟩
  obtain ⟨X, rfl⟩ : ∃ X, ei = X + 1 := ⟨ei - 1, by omega⟩
  have HD := Aside0.mk hd
  have HT := Aside0.mk ht
  have HB := Aside0.mk hb
  have HT1 := Aside0.mk (ht.step hb)
  have hlt := hd.dec.lt
  have hfz := hd.dec.fz
  have i0 := HT1.out.tabs.i0
  have i1 := HT1.out.tabs.i1
  have i2 := HT1.out.tabs.i2
  have h6 : 6 < w.heap.size := by have := HT1.out.tabs.big; omega
  apply wp_seq_k
  intro K hK
  have HK := Aside0.mk hK
  clear hK
  rcases Int.lt_or_le X (-1022) with h3 | h3
  · have q := eq_true h3
    obtain ⟨k, hk⟩ : ∃ k : Nat, -1022 - X = (k : Int) := ⟨(-1022 - X).toNat, by omega⟩
    have HS := Aside0.mk (shift_far w g f1 n1 d1 k (by omega) (by omega) (by omega) (by omega) hd)
    have e9 : X + (k : Int) = -1022 := by omega
    have hkb : k ≤ 110000 := by omega
    clear hd ht hb
    go_wp2
    refine HK.out _ _ ?_
    clear HK
    apply wp_seq_k
    intro K hK
    have HK := Aside0.mk hK
    clear hK
    go_wp2_with ((go_at_call 50; refine (HS.out).mono ?_); rintro e w5 ⟨rfl, hb5, f5, n5, d5, hf5, s1, s2⟩; have HB5 := Aside0.mk hb5; have HF5 := Aside0.mk hf5; have S1 := Aside0.mk s1; have S2 := Aside0.mk s2; clear hb5 hf5 s1 s2)
    refine HK.out _ _ (go_on (n := 10) (c := sc87) rfl ?_)
    exact bits_p4 HGo ⟨rfl, rfl, rfl, rfl, rfl⟩ (e1 := -1022) (by first | rfl | exact congrArg (Value.int .i64) e9) (by omega) (by omega) HF5.out (by have := S2.out; omega) (by have := S1.out; omega) HT.out (HB.out.trans HB5.out)
  · have q := eq_false (show ¬ X < -1022 by omega)
    clear hd ht hb
    go_wp2
    refine HK.out _ _ ?_
    clear HK
    apply wp_seq_k
    intro K hK
    have HK := Aside0.mk hK
    clear hK
    go_wp2
    refine HK.out _ _ (go_on (n := 10) (c := sc87) rfl ?_)
    exact bits_p4 HGo ⟨rfl, rfl, rfl, rfl, rfl⟩ rfl (by omega) (by omega) HD.out (by omega) hd2 HT.out HB.out

set_option maxRecDepth 100000 in
theorem bits_p3 {g : Nat} {w0 w : World} {J : Exit → Act → World → Prop} {a : Act} (HGo : Jumps g w0 J) {ei : Int} {f1 : Nat → Int} {n1 : Nat} {d1 : Int} (hs : Slots g a) (t6 : a.tmps.getD 6 undef = .int .i64 ei) (he0 : -100000 ≤ ei) (he1 : ei ≤ 20000) (hd : Fine w g f1 n1 d1) (hd1 : -330 ≤ d1) (hd2 : d1 ≤ 30) (ht : TabG g w0) (hb : Below g w0 w) :
    ∃ rest, dropS 8 sc87 = some rest ∧ rest.wp Tryz.prog J a w := by
  have key := bits_p3_u g w0 w J HGo (fun i => a.tmps.getD i undef) ei f1 n1 d1 he0 he1 hd hd1 hd2 ht hb
  rw [act_of a 243 hs.size hs.df]
  rw [← hs.t0, ← hs.t1, ← hs.t5, ← t6] at key
  exact key

set_option maxRecDepth 100000 in
set_option maxHeartbeats 4000000 in
theorem bits_p2_u (g : Nat) (w0 w : World) (J : Exit → Act → World → Prop) (HGo : Jumps g w0 J) (u : Nat → Value) (ei0 : Int) (f0 : Nat → Int) (n0 : Nat) (d0 : Int) (he0 : 0 ≤ ei0) (he1 : ei0 ≤ 20000) (hd : Fine w g f0 n0 d0) (hd0 : d0 ≤ 0) (hd01 : -330 ≤ d0) (ht : TabG g w0) (hb : Below g w0 w) :
    ∃ rest, dropS 7 sc87 = some rest ∧ rest.wp Tryz.prog J ⟨[.pointer (some ⟨g, 0, none⟩), .pointer (some ⟨6, 0, none⟩), u 2, u 3, u 4, .bool false, .int .i64 ei0, u 7, u 8, u 9, u 10, u 11, u 12, u 13, u 14, u 15, u 16, u 17, u 18, u 19, u 20, u 21, u 22, u 23, u 24, u 25, u 26, u 27, u 28, u 29, u 30, u 31, u 32, u 33, u 34, u 35, u 36, u 37, u 38, u 39, u 40, u 41, u 42, u 43, u 44, u 45, u 46, u 47, u 48, u 49, u 50, u 51, u 52, u 53, u 54, u 55, u 56, u 57, u 58, u 59, u 60, u 61, u 62, u 63, u 64, u 65, u 66, u 67, u 68, u 69, u 70, u 71, u 72, u 73, u 74, u 75, u 76, u 77, u 78, u 79, u 80, u 81, u 82, u 83, u 84, u 85, u 86, u 87, u 88, u 89, u 90, u 91, u 92, u 93, u 94, u 95, u 96, u 97, u 98, u 99, u 100, u 101, u 102, u 103, u 104, u 105, u 106, u 107, u 108, u 109, u 110, u 111, u 112, u 113, u 114, u 115, u 116, u 117, u 118, u 119, u 120, u 121, u 122, u 123, u 124, u 125, u 126, u 127, u 128, u 129, u 130, u 131, u 132, u 133, u 134, u 135, u 136, u 137, u 138, u 139, u 140, u 141, u 142, u 143, u 144, u 145, u 146, u 147, u 148, u 149, u 150, u 151, u 152, u 153, u 154, u 155, u 156, u 157, u 158, u 159, u 160, u 161, u 162, u 163, u 164, u 165, u 166, u 167, u 168, u 169, u 170, u 171, u 172, u 173, u 174, u 175, u 176, u 177, u 178, u 179, u 180, u 181, u 182, u 183, u 184, u 185, u 186, u 187, u 188, u 189, u 190, u 191, u 192, u 193, u 194, u 195, u 196, u 197, u 198, u 199, u 200, u 201, u 202, u 203, u 204, u 205, u 206, u 207, u 208, u 209, u 210, u 211, u 212, u 213, u 214, u 215, u 216, u 217, u 218, u 219, u 220, u 221, u 222, u 223, u 224, u 225, u 226, u 227, u 228, u 229, u 230, u 231, u 232, u 233, u 234, u 235, u 236, u 237, u 238, u 239, u 240, u 241, u 242].toArray, []⟩ w := by
  refine ⟨_, rfl, ?_⟩
  have HD := Aside0.mk hd
  have HT := Aside0.mk ht
  have HB := Aside0.mk hb
  have HT1 := Aside0.mk (ht.step hb)
  have hlt := hd.dec.lt
  have hfz := hd.dec.fz
  have i0 := HT1.out.tabs.i0
  have i1 := HT1.out.tabs.i1
  have i2 := HT1.out.tabs.i2
  have h6 : 6 < w.heap.size := by have := HT1.out.tabs.big; omega
  apply wp_seq_k
  intro K hK
  have HK := Aside0.mk hK
  clear hK
  have HF0 := Aside0.mk hd
  have HB0 := Aside0.mk hb
  go_wp2_with fail
  go_loopg [6] 3600 (fun gk e wr => ∃ (ei : Int) (f1 : Nat → Int) (n1 : Nat) (d1 : Int), e = .int .i64 ei ∧ ei ≤ 20000 ∧ 27 * (gk : Int) ≤ ei + 97200 ∧ Fine wr g f1 n1 d1 ∧ mu2 f1 d1 ≤ gk ∧ d1 ≤ 30 ∧ -330 ≤ d1 ∧ Below g w0 wr)
  case atStart => exact ⟨ei0, f0, n0, d0, rfl, he1, by omega, HF0.out, by
    have h1 := HF0.out.digs 0 HF0.out.pos
    unfold mu2
    rw [if_pos hd0]
    omega, by omega, hd01, HB0.out⟩
  case round =>
    clear he0 he1 hd hd0 hd01 ht hb HB0 HF0 hlt hfz i0 i1 i2 h6 HT1 HB HD
    obtain ⟨ei, f1, n1, d1, rfl, he0, he1, hfi, hmu, hd1, hd2, hb⟩ := hrel
    have HB := Aside0.mk hb
    have HF := Aside0.mk hfi
    have HMU := Aside0.mk hmu
    have c1 := hfi.dec.dp
    have hlt := hfi.dec.lt
    have hfz := hfi.dec.fz
    have HT1 := Aside0.mk (HT.out.step hb)
    have HE0 := Aside0.mk he0
    have HE1 := Aside0.mk he1
    have HD1 := Aside0.mk hd1
    have HD2 := Aside0.mk hd2
    have hei : -100000 ≤ ei := by omega
    have heu : ei ≤ 20000 := he0
    have hD0 := hfi.digs 0 hfi.pos
    have HD0 := Aside0.mk hD0
    rcases (show 0 < d1 ∨ d1 = 0 ∨ d1 < 0 by omega) with h3 | h3 | h3
    · have q1 := eq_false (show ¬ d1 < 0 by omega)
      have q2 : (d1 == 0) = false := beq_eq_false_iff_ne.2 (by omega)
      clear hb hfi hmu hd1 hd2 he1 he0 hD0
      go_wp2
      refine HK.out _ _ (go_on (n := 8) (c := sc87) rfl ?_)
      exact bits_p3 HGo ⟨rfl, rfl, rfl, rfl, rfl⟩ rfl hei HE0.out HF.out HD2.out HD1.out HT.out HB.out
    · subst h3
      have c2 := hfi.dec.cell 0 (by omega)
      obtain ⟨y, hy⟩ : ∃ y, f1 0 = y := ⟨_, rfl⟩
      rw [hy] at c2 hD0
      have HY := Aside0.mk hy
      rcases Int.lt_or_le y 53 with h5 | h5
      · have q3 := eq_true h5
        obtain ⟨B, o, c, t1, t2, t3, t4, t5, t6⟩ := HT1.out.pow
        have t7 := t6 0 (by omega)
        rw [Nat.add_zero] at t7
        have t8 : wr.cell? ⟨B, o, none⟩ = some (.int .i64 1) := t7
        obtain ⟨dl, sc, hch⟩ := cheat_of 1 (by omega) (by omega)
        have HS := Aside0.mk (fun w5 (hd : Fine w5 g f1 n1 0) (ht : TabG g w5) => show Calls Tryz.prog 50 #[.pointer (some ⟨g, 0, none⟩), .int .i64 1] w5 (LeftRes g f1 n1 0 dl w5) from shift_left w5 g f1 n1 0 1 dl sc (by omega) (by omega) (by omega) (by omega) hd ht hch)
        have HDL := Aside0.mk (dl_le hch)
        have H5 := Aside0.mk h5
        clear t6 t7 hb hfi hmu hd1 hd2 he1 he0 hD0 hch hy
        go_wp2
        go_region
        go_wp2
        go_region
        go_wp2_with ((go_at_call 50; refine (HS.out _ (by first | exact HF.out | exact HF.out.drew | exact HF.out.drew.drew) (by first | exact HT1.out | exact tabg_drew HT1.out | exact tabg_drew (tabg_drew HT1.out))).mono ?_); rintro e w5 ⟨rfl, hb5, f5, n5, δ, hf5, s1, s2, s3⟩; have HB5 := Aside0.mk (show Below g wr w5 by first | exact hb5 | exact below_drew1 hb5 | exact bdrew_ hb5); have HF5 := Aside0.mk hf5; have S1 := Aside0.mk s1; have S2 := Aside0.mk s2; have S3 := Aside0.mk s3; clear hb5 hf5 s1 s2 s3)
        obtain ⟨m1, m2⟩ := mu2_step (dp := 0) HMU.out (by omega) (.inr (by rw [HY.out]; exact H5.out)) HD0.out.2 (by have h1 := HF5.out.digs 0 HF5.out.pos; have h2 := HF5.out.top; omega) S3.out
        go_roundg (gk - 1)
        case measure => omega
        case rel => exact ⟨ei - 1, f5, n5, _, rfl, by have := HE0.out; omega, by have := HE1.out; omega, HF5.out, m2, by have := S2.out; have := HDL.out; omega, by omega, HB.out.trans HB5.out⟩
      · have q3 := eq_false (show ¬ y < 53 by omega)
        clear hb hfi hmu hd1 hd2 he1 he0 hD0 hy
        go_wp2
        refine HK.out _ _ (go_on (n := 8) (c := sc87) rfl ?_)
        exact bits_p3 HGo ⟨rfl, rfl, rfl, rfl, rfl⟩ rfl hei HE0.out HF.out HD2.out HD1.out HT.out HB.out
    · obtain ⟨j, rfl⟩ : ∃ j : Nat, d1 = -(j : Int) := ⟨(-d1).toNat, by omega⟩
      have q1 := eq_true h3
      have q1' := eq_true (show 0 < j by omega)
      have hjb : j ≤ 330 := by omega
      obtain ⟨B, o, c, t1, t2, t3, t4, t5, t6⟩ := HT1.out.pow
      rcases Nat.lt_or_ge j 9 with h9 | h9
      · obtain ⟨pn, dl, sc, e1, e2, e3, hch, e5⟩ := pow_ok2 j (by omega)
        have t7 := t6 j h9
        rw [e1] at t7
        have q2 := eq_false (show ¬ (9 : Int) ≤ (j : Int) by omega)
        have q2' := eq_false (show ¬ 9 ≤ j by omega)
        have q3 := eq_true h9
        have q3' := eq_true (show (j : Int) < 9 by omega)
        have HS := Aside0.mk (fun w5 (hd : Fine w5 g f1 n1 (-(j : Int))) (ht : TabG g w5) => shift_left w5 g f1 n1 (-(j : Int)) pn dl sc (by omega) (by omega) (by omega) (by omega) hd ht hch)
        have HDL := Aside0.mk (dl_le hch)
        have HPN := Aside0.mk (show 1 ≤ pn ∧ pn ≤ 27 from ⟨e2, e3⟩)
        have hpn : pn ≤ 27 := e3
        have HJ := Aside0.mk (show 1 ≤ j by omega)
        clear t6 hb hfi hmu hd1 hd2 he1 he0 hD0 hch e1 e2 e3 e5 h9
        go_wp2
        go_region
        go_wp2
        go_region
        go_wp2_with ((go_at_call 50; refine (HS.out _ (by first | exact HF.out | exact HF.out.drew | exact HF.out.drew.drew) (by first | exact HT1.out | exact tabg_drew HT1.out | exact tabg_drew (tabg_drew HT1.out))).mono ?_); rintro e w5 ⟨rfl, hb5, f5, n5, δ, hf5, s1, s2, s3⟩; have HB5 := Aside0.mk (show Below g wr w5 by first | exact hb5 | exact below_drew1 hb5 | exact bdrew_ hb5); have HF5 := Aside0.mk hf5; have S1 := Aside0.mk s1; have S2 := Aside0.mk s2; have S3 := Aside0.mk s3; clear hb5 hf5 s1 s2 s3)
        obtain ⟨m1, m2⟩ := mu2_step HMU.out (by omega) (.inl h3) HD0.out.2 (by have h1 := HF5.out.digs 0 HF5.out.pos; have h2 := HF5.out.top; omega) S3.out
        go_roundg (gk - 1)
        case measure => omega
        case rel => exact ⟨ei - (pn : Int), f5, n5, _, rfl, by have := HE0.out; omega, by have := HE1.out; have := HPN.out.2; omega, HF5.out, m2, by have := S2.out; have := HDL.out; have := HPN.out.2; omega, by have := HD2.out; omega, HB.out.trans HB5.out⟩
      · have q2 := eq_true (show (9 : Int) ≤ (j : Int) by omega)
        have q2' := eq_true h9
        obtain ⟨dl, sc, hch⟩ := cheat_of 27 (by omega) (by omega)
        have HS := Aside0.mk (fun w5 (hd : Fine w5 g f1 n1 (-(j : Int))) (ht : TabG g w5) => show Calls Tryz.prog 50 #[.pointer (some ⟨g, 0, none⟩), .int .i64 27] w5 (LeftRes g f1 n1 (-(j : Int)) dl w5) from shift_left w5 g f1 n1 (-(j : Int)) 27 dl sc (by omega) (by omega) (by omega) (by omega) hd ht hch)
        have HDL := Aside0.mk (dl_le hch)
        clear t6 hb hfi hmu hd1 hd2 he1 he0 hD0 hch h9
        go_wp2
        go_region
        go_wp2_with ((go_at_call 50; refine (HS.out _ (by first | exact HF.out | exact HF.out.drew | exact HF.out.drew.drew) (by first | exact HT1.out | exact tabg_drew HT1.out | exact tabg_drew (tabg_drew HT1.out))).mono ?_); rintro e w5 ⟨rfl, hb5, f5, n5, δ, hf5, s1, s2, s3⟩; have HB5 := Aside0.mk (show Below g wr w5 by first | exact hb5 | exact below_drew1 hb5 | exact bdrew_ hb5); have HF5 := Aside0.mk hf5; have S1 := Aside0.mk s1; have S2 := Aside0.mk s2; have S3 := Aside0.mk s3; clear hb5 hf5 s1 s2 s3)
        obtain ⟨m1, m2⟩ := mu2_step HMU.out (by omega) (.inl h3) HD0.out.2 (by have h1 := HF5.out.digs 0 HF5.out.pos; have h2 := HF5.out.top; omega) S3.out
        go_roundg (gk - 1)
        case measure => omega
        case rel => exact ⟨ei - 27, f5, n5, _, rfl, by have := HE0.out; omega, by have := HE1.out; omega, HF5.out, m2, by have := S2.out; have := HDL.out; omega, by have := HD2.out; omega, HB.out.trans HB5.out⟩

set_option maxRecDepth 100000 in
theorem bits_p2 {g : Nat} {w0 w : World} {J : Exit → Act → World → Prop} {a : Act} (HGo : Jumps g w0 J) {ei0 : Int} {f0 : Nat → Int} {n0 : Nat} {d0 : Int} (hs : Slots g a) (t6 : a.tmps.getD 6 undef = .int .i64 ei0) (he0 : 0 ≤ ei0) (he1 : ei0 ≤ 20000) (hd : Fine w g f0 n0 d0) (hd0 : d0 ≤ 0) (hd01 : -330 ≤ d0) (ht : TabG g w0) (hb : Below g w0 w) :
    ∃ rest, dropS 7 sc87 = some rest ∧ rest.wp Tryz.prog J a w := by
  have key := bits_p2_u g w0 w J HGo (fun i => a.tmps.getD i undef) ei0 f0 n0 d0 he0 he1 hd hd0 hd01 ht hb
  rw [act_of a 243 hs.size hs.df]
  rw [← hs.t0, ← hs.t1, ← hs.t5, ← t6] at key
  exact key

set_option maxRecDepth 100000 in
set_option maxHeartbeats 4000000 in
theorem bits_p1_u (g : Nat) (w0 w : World) (J : Exit → Act → World → Prop) (HGo : Jumps g w0 J) (u : Nat → Value) (f : Nat → Int) (nd : Nat) (dp : Int) (hd : Fine w g f nd dp) (h'1 : dp ≤ 310) (h2'1 : -330 ≤ dp) (ht : TabG g w0) (hb : Below g w0 w) :
    ∃ rest, dropS 6 sc87 = some rest ∧ rest.wp Tryz.prog J ⟨[.pointer (some ⟨g, 0, none⟩), .pointer (some ⟨6, 0, none⟩), u 2, u 3, u 4, .bool false, .int .i64 0, u 7, u 8, u 9, u 10, u 11, u 12, u 13, u 14, u 15, u 16, u 17, u 18, u 19, u 20, u 21, u 22, u 23, u 24, u 25, u 26, u 27, u 28, u 29, u 30, u 31, u 32, u 33, u 34, u 35, u 36, u 37, u 38, u 39, u 40, u 41, u 42, u 43, u 44, u 45, u 46, u 47, u 48, u 49, u 50, u 51, u 52, u 53, u 54, u 55, u 56, u 57, u 58, u 59, u 60, u 61, u 62, u 63, u 64, u 65, u 66, u 67, u 68, u 69, u 70, u 71, u 72, u 73, u 74, u 75, u 76, u 77, u 78, u 79, u 80, u 81, u 82, u 83, u 84, u 85, u 86, u 87, u 88, u 89, u 90, u 91, u 92, u 93, u 94, u 95, u 96, u 97, u 98, u 99, u 100, u 101, u 102, u 103, u 104, u 105, u 106, u 107, u 108, u 109, u 110, u 111, u 112, u 113, u 114, u 115, u 116, u 117, u 118, u 119, u 120, u 121, u 122, u 123, u 124, u 125, u 126, u 127, u 128, u 129, u 130, u 131, u 132, u 133, u 134, u 135, u 136, u 137, u 138, u 139, u 140, u 141, u 142, u 143, u 144, u 145, u 146, u 147, u 148, u 149, u 150, u 151, u 152, u 153, u 154, u 155, u 156, u 157, u 158, u 159, u 160, u 161, u 162, u 163, u 164, u 165, u 166, u 167, u 168, u 169, u 170, u 171, u 172, u 173, u 174, u 175, u 176, u 177, u 178, u 179, u 180, u 181, u 182, u 183, u 184, u 185, u 186, u 187, u 188, u 189, u 190, u 191, u 192, u 193, u 194, u 195, u 196, u 197, u 198, u 199, u 200, u 201, u 202, u 203, u 204, u 205, u 206, u 207, u 208, u 209, u 210, u 211, u 212, u 213, u 214, u 215, u 216, u 217, u 218, u 219, u 220, u 221, u 222, u 223, u 224, u 225, u 226, u 227, u 228, u 229, u 230, u 231, u 232, u 233, u 234, u 235, u 236, u 237, u 238, u 239, u 240, u 241, u 242].toArray, []⟩ w := by
  refine ⟨_, rfl, ?_⟩
  have HD := Aside0.mk hd
  have HT := Aside0.mk ht
  have HB := Aside0.mk hb
  have HT1 := Aside0.mk (ht.step hb)
  have hlt := hd.dec.lt
  have hfz := hd.dec.fz
  have i0 := HT1.out.tabs.i0
  have i1 := HT1.out.tabs.i1
  have i2 := HT1.out.tabs.i2
  have h6 : 6 < w.heap.size := by have := HT1.out.tabs.big; omega
  apply wp_seq_k
  intro K hK
  have HK := Aside0.mk hK
  clear hK
  have h' := Aside0.mk h'1
  have h2' := Aside0.mk h2'1
  go_wp2_with fail
  go_loopg [6] 622 (fun gk e wr => ∃ (ei : Int) (f1 : Nat → Int) (n1 : Nat) (d1 : Int), e = .int .i64 ei ∧ 0 ≤ ei ∧ ei + 27 * (gk : Int) ≤ 16794 ∧ Fine wr g f1 n1 d1 ∧ mu1 f1 d1 ≤ gk ∧ d1 ≤ 310 ∧ -330 ≤ d1 ∧ Below g w0 wr)
  case atStart => exact ⟨0, f, nd, dp, rfl, by omega, by omega, HD.out, by have := h'.out; unfold mu1; split <;> omega, h'.out, h2'.out, HB.out⟩
  case round =>
    clear hd ht hb hlt hfz i0 i1 i2 h6 HT1 HB HD
    obtain ⟨ei, f1, n1, d1, rfl, he0, he1, hfi, hmu, hd1, hd2, hb⟩ := hrel
    have HB := Aside0.mk hb
    have HF := Aside0.mk hfi
    have HMU := Aside0.mk hmu
    have c1 := hfi.dec.dp
    have hlt := hfi.dec.lt
    have hfz := hfi.dec.fz
    have HT1 := Aside0.mk (HT.out.step hb)
    rcases Int.lt_or_le 0 d1 with h3 | h3
    · have q1 := eq_true h3
      obtain ⟨B, o, c, t1, t2, t3, t4, t5, t6⟩ := HT1.out.pow
      obtain ⟨j, rfl⟩ : ∃ j : Nat, d1 = (j : Int) := ⟨d1.toNat, by omega⟩
      have hj1 : 1 ≤ j := by omega
      rcases Nat.lt_or_ge j 9 with h9 | h9
      · obtain ⟨pn, e1, e2, e3, e4, e5⟩ := pow_ok j hj1 (by omega)
        have t7 := t6 j h9
        rw [e1] at t7
        have q2 := eq_false (show ¬ (9 : Int) ≤ (j : Int) by omega)
        have q2' := eq_false (show ¬ 9 ≤ j by omega)
        have q3 := eq_true h9
        have q3' := eq_true (show (j : Int) < 9 by omega)
        have HS := Aside0.mk (fun w5 (hd : Fine w5 g f1 n1 (j : Int)) => shift_right w5 g f1 n1 (j : Int) pn (by omega) (by omega) (by omega) (by omega) hd)
        have HE := Aside0.mk (show 3 ≤ pn ∧ pn ≤ 27 from ⟨e2, e3⟩)
        have HJ := Aside0.mk (show 1 ≤ j from hj1)
        have heb : ei ≤ 17000 := by omega
        have HE0 := Aside0.mk he0
        have HE1 := Aside0.mk he1
        have hpn : pn ≤ 27 := e3
        have HD1 := Aside0.mk hd1
        clear t6 hb hfi hmu h9 e1 e2 e3 e4 e5 hd1 hd2 he1
        go_wp2
        go_region
        go_wp2
        go_region
        go_wp2_with ((go_at_call 50; refine (HS.out _ (by first | exact HF.out | exact HF.out.drew | exact HF.out.drew.drew)).mono ?_); rintro e w5 ⟨rfl, hb5, f5, n5, d5, hf5, s1, s2, s3, s4⟩; have HB5 := Aside0.mk (show Below g wr w5 by first | exact hb5 | exact below_drew1 hb5 | exact bdrew_ hb5); have HF5 := Aside0.mk hf5; have S1 := Aside0.mk s1; have S2 := Aside0.mk s2; have S3 := Aside0.mk s3; have S4 := Aside0.mk s4; clear hb5 hf5 s1 s2 s3 s4)
        obtain ⟨m1, m2⟩ := mu1_step HMU.out h3 S3.out S4.out HE.out.1
        go_roundg (gk - 1)
        case measure => omega
        case rel => exact ⟨ei + (pn : Int), f5, n5, d5, rfl, by have := HE0.out; omega, by have := HE1.out; omega, HF5.out, m2, by have := S1.out; have := HD1.out; omega, by have := S2.out; have := HJ.out; omega, HB.out.trans HB5.out⟩
      · have q2 := eq_true (show (9 : Int) ≤ (j : Int) by omega)
        have q2' := eq_true h9
        have HS := Aside0.mk (fun w5 (hd : Fine w5 g f1 n1 (j : Int)) => show Calls Tryz.prog 50 #[.pointer (some ⟨g, 0, none⟩), .int .i64 (-27)] w5 (RightRes g f1 n1 (j : Int) 27 w5) from shift_right w5 g f1 n1 (j : Int) 27 (by omega) (by omega) (by omega) (by omega) hd)
        have HJ := Aside0.mk (show 9 ≤ j from h9)
        have heb : ei ≤ 17000 := by omega
        have HE0 := Aside0.mk he0
        have HE1 := Aside0.mk he1
        have HD1 := Aside0.mk hd1
        clear t6 hb hfi hmu h9 hd1 hd2 he1
        go_wp2
        go_region
        go_wp2_with ((go_at_call 50; refine (HS.out _ (by first | exact HF.out | exact HF.out.drew | exact HF.out.drew.drew)).mono ?_); rintro e w5 ⟨rfl, hb5, f5, n5, d5, hf5, s1, s2, s3, s4⟩; have HB5 := Aside0.mk (show Below g wr w5 by first | exact hb5 | exact below_drew1 hb5 | exact bdrew_ hb5); have HF5 := Aside0.mk hf5; have S1 := Aside0.mk s1; have S2 := Aside0.mk s2; have S3 := Aside0.mk s3; have S4 := Aside0.mk s4; clear hb5 hf5 s1 s2 s3 s4)
        obtain ⟨m1, m2⟩ := mu1_step HMU.out h3 S3.out S4.out (by omega)
        go_roundg (gk - 1)
        case measure => omega
        case rel => exact ⟨ei + 27, f5, n5, d5, rfl, by have := HE0.out; omega, by have := HE1.out; omega, HF5.out, m2, by have := S1.out; have := HD1.out; omega, by have := S2.out; have := HJ.out; omega, HB.out.trans HB5.out⟩
    · have q1 := eq_false (show ¬ 0 < d1 by omega)
      have H1 := Aside0.mk (show ei ≤ 20000 by omega)
      have H2 := Aside0.mk hd2
      clear hb hfi hmu hd1 hd2 he1
      go_wp2
      refine HK.out _ _ (go_on (n := 7) (c := sc87) rfl ?_)
      exact bits_p2 HGo ⟨rfl, rfl, rfl, rfl, rfl⟩ rfl he0 H1.out HF.out h3 H2.out HT.out HB.out

set_option maxRecDepth 100000 in
theorem bits_p1 {g : Nat} {w0 w : World} {J : Exit → Act → World → Prop} {a : Act} (HGo : Jumps g w0 J) {f : Nat → Int} {nd : Nat} {dp : Int} (hs : Slots g a) (t6 : a.tmps.getD 6 undef = .int .i64 0) (hd : Fine w g f nd dp) (h'1 : dp ≤ 310) (h2'1 : -330 ≤ dp) (ht : TabG g w0) (hb : Below g w0 w) :
    ∃ rest, dropS 6 sc87 = some rest ∧ rest.wp Tryz.prog J a w := by
  have key := bits_p1_u g w0 w J HGo (fun i => a.tmps.getD i undef) f nd dp hd h'1 h2'1 ht hb
  rw [act_of a 243 hs.size hs.df]
  rw [← hs.t0, ← hs.t1, ← hs.t5, ← t6] at key
  exact key

set_option maxRecDepth 30000 in
set_option maxHeartbeats 8000000 in
theorem bits_1 (w : World) (g : Nat) (f : Nat → Int) (nd : Nat) (dp : Int) (hd : Fine w g f nd dp) (ht : TabG g w) (hdp1 : -300000 ≤ dp) (hdp2 : dp ≤ 300000) :
    Calls Tryz.prog 87 #[.pointer (some ⟨g, 0, none⟩), .pointer (some ⟨6, 0, none⟩)] w (BitRes g w) := by
  have HD := Aside0.mk hd
  have HT := Aside0.mk ht
  have c0 := hd.dec.nd
  have c1 := hd.dec.dp
  obtain ⟨sg, c3⟩ := hd.dec.neg
  have hlt := hd.dec.lt
  have hfz := hd.dec.fz
  have i0 := ht.tabs.i0
  have i1 := ht.tabs.i1
  have i2 := ht.tabs.i2
  have h6 : 6 < w.heap.size := by have := ht.tabs.big; omega
  have p0 : ((nd : Int) == 0) = false := beq_eq_false_iff_ne.2 (by have := hd.pos; omega)
  have HTW := Aside0.mk (tailw_of hd ht (Below.refl _ _))
  clear hd ht
  rcases Int.lt_or_le 310 dp with h | h
  · have p1 := eq_true h
    clear h
    go_enter Tryz.func87, Tryz.ntmps87
    go_wp2
    refine bits_scope rfl ?_
    intro J HGo
    go_wp2
    go_step3
    exact HGo.go.2 _ _ ⟨rfl, rfl, rfl, rfl, by first | exact HTW.out | exact HTW.out.drew | exact HTW.out.drew.drew⟩
  · have p1 := eq_false (show ¬ 310 < dp by omega)
    rcases Int.lt_or_le dp (-330) with h2 | h2
    · have p2 := eq_true h2
      clear h h2
      go_enter Tryz.func87, Tryz.ntmps87
      go_wp2
      refine bits_scope rfl ?_
      intro J HGo
      go_wp2
      go_step3
      exact HGo.go.1 _ _ ⟨rfl, rfl, rfl, rfl, ⟨_, rfl⟩, ⟨_, rfl, by omega, by omega⟩, ⟨_, rfl⟩, by first | exact HTW.out | exact HTW.out.drew | exact HTW.out.drew.drew⟩
    · have p2 := eq_false (show ¬ dp < -330 by omega)
      have h' := Aside0.mk h
      have h2' := Aside0.mk h2
      clear h h2
      go_enter Tryz.func87, Tryz.ntmps87
      go_wp2
      refine bits_scope rfl ?_
      intro J HGo
      go_upto_region 10 with fail
      rename_i K hK
      have HK := Aside0.mk hK
      clear hK
      go_wp2
      refine HK.out _ _ (go_on (n := 6) (c := sc87) rfl ?_)
      exact bits_p1 HGo ⟨rfl, rfl, rfl, rfl, rfl⟩ rfl HD.out h'.out h2'.out HT.out (Below.refl _ _)
end Go.Proofs.YtjniglmijikojaaGreatDoor.Text
