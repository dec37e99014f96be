/- WordParts: the walk of the law. No conditions but the reach of the arguments. -/
import Derived.Test.YtihhclgjjgakpaaMyCut
namespace Go.Proofs.Ytihhclgjjgakpaa.Inbox
open Go.RowKit Go.Proofs.YtihhclgjjgakpaaW.PrintWords Go.Proofs.YtihhclgjjgakpaaW.PrintLast Go.Proofs.YtihhclgjjgakpaaW.PrintMore

theorem cutS_len (l : List Int) (s : ByteArray) (h : (cutS s l).2 = 0) : (cutS s l).1.length = l.length + 1 := by
  obtain ⟨p, r, h1, h2, _⟩ := cutS_shape l s h
  rw [h1]; simp [h2]

theorem word_awake_any (w : World) : Calls Try.prog 17 #[] w fun e w' => e = .returned (.bool true) ∧ Below w.heap.size w w' :=
  PWordParts.vagabondlaw01_awake.calls 10 true w (by decide +kernel)

theorem parts_long (s : ByteArray) (A B : Option Addr) (n m c c' : Nat) (w : World) (h : 300 < s.size ∨ 20 < n ∨ 20 < m) (h1 : s.size ≤ 9223372036854775807) (h2 : n ≤ 9223372036854775807) (h3 : m ≤ 9223372036854775807) :
    Calls Try.prog 6 #[.string s, .slice A n c, .slice B m c'] w fun e w' => e = .returned (.bool true) ∧ Below w.heap.size w w' := by
  by_cases h4 : 300 < s.size
  · go_enter Try.func6, Try.ntmps6
    go_wp2_with (go_at_call 17; refine (word_awake_any _).mono ?_; rintro e w1 ⟨rfl, hb1⟩; have HB1 := Aside0.mk hb1; clear hb1)
    go_ret
    exact ⟨rfl, HB1.out⟩
  · by_cases h5 : 20 < n
    · go_enter Try.func6, Try.ntmps6
      go_wp2_with (go_at_call 17; refine (word_awake_any _).mono ?_; rintro e w1 ⟨rfl, hb1⟩; have HB1 := Aside0.mk hb1; clear hb1)
      go_ret
      exact ⟨rfl, HB1.out⟩
    · have h6 : 20 < m := by omega
      go_enter Try.func6, Try.ntmps6
      go_wp2_with (go_at_call 17; refine (word_awake_any _).mono ?_; rintro e w1 ⟨rfl, hb1⟩; have HB1 := Aside0.mk hb1; clear hb1)
      go_ret
      exact ⟨rfl, HB1.out⟩

set_option maxHeartbeats 2000000 in
theorem parts_short (s : ByteArray) (A B : Option Addr) (a b : List Int) (c c' : Nat) (w : World) (hs : s.size ≤ 300) (ha : a.length ≤ 20) (hb : b.length ≤ 20) (hac : a.length ≤ c) (hbc : b.length ≤ c') (ta : Nums .i64 w A a) (tb : Nums .i64 w B b) :
    Calls Try.prog 6 #[.string s, .slice A a.length c, .slice B b.length c'] w fun e w' => e = .returned (.bool true) ∧ Below w.heap.size w w' := by
  have TA := Aside0.mk ta
  have TB := Aside0.mk tb
  clear ta tb
  obtain ⟨la, ea, hla⟩ : ∃ l x, cutS s a = (l, x) := ⟨_, _, rfl⟩
  obtain ⟨lc, ec, hlc⟩ : ∃ l x, cutS s (a ++ b) = (l, x) := ⟨_, _, rfl⟩
  have LA := Aside0.mk hla
  have LC := Aside0.mk hlc
  by_cases hea : ea = 0
  · have h0 : (cutS s a).2 = 0 := by rw [hla]; exact hea
    obtain ⟨p, r, h1, h2, h3⟩ := cutS_shape a s h0
    have h4 := h3 b
    subst hea
    have hlp : la = p ++ [r] := by rw [← h1, hla]
    subst hlp
    obtain ⟨lb, eb, hlb⟩ : ∃ l x, cutS r b = (l, x) := ⟨_, _, rfl⟩
    have LB := Aside0.mk hlb
    rw [hlc, hlb] at h4
    have hll : (p ++ [r]).length = a.length + 1 := by simp [h2]
    have HLL := Aside0.mk hll
    have HP := Aside0.mk h2
    by_cases heb : eb = 0
    · subst heb
      rw [if_pos rfl] at h4
      obtain ⟨rfl, rfl⟩ := Prod.mk.inj h4
      have hpl : (p ++ lb).length = a.length + lb.length := by rw [List.length_append, h2]
      have HPL := Aside0.mk hpl
      have hlb20 : lb.length ≤ 21 := by
        have := cutS_len b r (by rw [hlb])
        rw [hlb] at this
        simp only at this
        omega
      clear h4 hpl
      clear hlb hlc hla h0 h1 h2 h3 hll
      go_enter Try.func6, Try.ntmps6
      go_wp2_with (first
        | (go_at_call 17; refine (word_awake_any _).mono ?_; rintro e w1 ⟨rfl, hb1⟩; have HB1 := Aside0.mk hb1; clear hb1)
        | (go_at_call 25; refine (cut_at s A a.length c (a.length + 1) a (p ++ [r]) 0 _ rfl (by omega) hac (TA.out.below HB1.out) LA.out HLL.out).mono ?_; rintro e w2 ⟨A2, c2, rfl, h5, h6, h7⟩; have HB2 := Aside0.mk (HB1.out.trans (h7.mono HB1.out.size)); have H6 := Aside0.mk h6; clear h6 h7))
      have HC3 := Aside0.mk ((Below.refl w2.heap.size w2).alloc (Nat.le_refl _) (Obj.cells #[.slice A a.length c, .slice B b.length c'] 43))
      have HB3 := Aside0.mk (HB2.out.trans (HC3.out.mono HB2.out.size))
      have hz2 := HB2.out.size
      refine (concat_two_ints w2.heap.size A B c c' a b _ (by omega) (by omega) (by go_simp) (by go_simp) (reads_nums (TA.out.below HB3.out) (by omega)) (reads_nums (TB.out.below HB3.out) (by omega))).mono ?_
      rintro e w4 ⟨A4, c4, rfl, hown, hb4⟩
      obtain ⟨h8, h9⟩ := own_nums hown
      have H9 := Aside0.mk h9
      have HC4 := Aside0.mk (HC3.out.trans (hb4.mono HC3.out.size))
      have hab : (a ++ b).length = a.length + b.length := List.length_append
      rw [hab] at h8
      have HAB := Aside0.mk hab
      clear hown hb4 h9 hab
      simp only [HAB.out]
      go_wp2_with fail
      refine (cut_at s A4 (a.length + b.length) c4 (a.length + lb.length) (a ++ b) (p ++ lb) 0 _ HAB.out (by omega) h8 H9.out LC.out HPL.out).mono ?_
      rintro e w5 ⟨A5, c5, rfl, h10, h11, hb5⟩
      have HC5 := Aside0.mk (HC4.out.trans (hb5.mono HC4.out.size))
      have H11 := Aside0.mk h11
      have HT2 := Aside0.mk (H6.out.below HC5.out)
      obtain ⟨ad, rfl, hx⟩ := HT2.out a.length r (by rw [← HP.out]; simp)
      clear hb5 h11
      go_wp2_with fail
      refine (cut_at r B b.length c' lb.length b lb 0 _ rfl (by omega) hbc (TB.out.below (HB2.out.trans (HC5.out.mono HB2.out.size))) LB.out rfl).mono ?_
      rintro e w6 ⟨A6, c6, rfl, h12, h13, hb6⟩
      have HC6 := Aside0.mk (HC5.out.trans (hb6.mono HC5.out.size))
      have H13 := Aside0.mk h13
      have H11' := Aside0.mk (H11.out.below hb6)
      clear hb6 h13 hx
      go_wp2_with fail
      have HC7 := Aside0.mk ((Below.refl w6.heap.size w6).alloc (Nat.le_refl _) (Obj.cells #[.slice (some ad) a.length c2, .slice A6 lb.length c6] 22))
      have tp : Txt w6 (some ad) p := by
        have := (H6.out.below HC6.out).take p.length
        rw [List.take_left] at this
        exact this
      have TP := Aside0.mk tp
      clear tp
      refine (concat_two_strs w6.heap.size (some ad) A6 c2 c6 p lb _ (by have := HP.out; omega) (by omega) (by rw [HP.out]; go_simp) (by go_simp) (reads_txt (TP.out.below HC7.out) (by have := HP.out; omega)) (reads_txt (H13.out.below HC7.out) (by omega))).mono ?_
      rintro e w7 ⟨A8, c8, rfl, hown, hb8⟩
      obtain ⟨k1, k2, _, _⟩ := own_txt' hown
      have K1 := Aside0.mk k1
      have K2 := Aside0.mk k2
      have HC8 := Aside0.mk (HC7.out.trans (hb8.mono HC7.out.size))
      clear k1 k2 hown hb8
      simp only [HPL.out]
      go_wp2_with fail
      refine (equal_same A5 A8 (a.length + lb.length) (a.length + lb.length) c5 c8 (p ++ lb) _ HPL.out HPL.out (by rw [HPL.out]; omega) (by rw [HPL.out]; exact h10) K1.out (H11'.out.below HC8.out) K2.out).mono ?_
      rintro e w9 ⟨rfl, hd⟩
      have HD := Aside0.mk hd
      clear hd
      go_wp2
      go_ret
      exact ⟨rfl, HB2.out.trans ((HC6.out.trans ((HC8.out.trans (HD.out.below.mono HC8.out.size)).mono HC6.out.size)).mono HB2.out.size)⟩
    · rw [if_neg heb] at h4
      obtain ⟨rfl, rfl⟩ := Prod.mk.inj h4
      have hlb0 := cutS_bad r b (by rw [hlb]; exact heb)
      rw [hlb] at hlb0
      simp only at hlb0
      subst hlb0
      have hb0 : (ec == 0) = false := by simpa using heb
      have hb1 : (ec != 0) = true := by simpa using heb
      clear h4 heb
      clear hlb hlc hla h0 h1 h2 h3 hll
      go_enter Try.func6, Try.ntmps6
      go_wp2_with (first
        | (go_at_call 17; refine (word_awake_any _).mono ?_; rintro e w1 ⟨rfl, hb1⟩; have HB1 := Aside0.mk hb1; clear hb1)
        | (go_at_call 25; refine (cut_at s A a.length c (a.length + 1) a (p ++ [r]) 0 _ rfl (by omega) hac (TA.out.below HB1.out) LA.out HLL.out).mono ?_; rintro e w2 ⟨A2, c2, rfl, h5, h6, h7⟩; have HB2 := Aside0.mk (HB1.out.trans (h7.mono HB1.out.size)); have H6 := Aside0.mk h6; clear h6 h7))
      have HC3 := Aside0.mk ((Below.refl w2.heap.size w2).alloc (Nat.le_refl _) (Obj.cells #[.slice A a.length c, .slice B b.length c'] 43))
      have HB3 := Aside0.mk (HB2.out.trans (HC3.out.mono HB2.out.size))
      have hz2 := HB2.out.size
      refine (concat_two_ints w2.heap.size A B c c' a b _ (by omega) (by omega) (by go_simp) (by go_simp) (reads_nums (TA.out.below HB3.out) (by omega)) (reads_nums (TB.out.below HB3.out) (by omega))).mono ?_
      rintro e w4 ⟨A4, c4, rfl, hown, hb4⟩
      obtain ⟨h8, h9⟩ := own_nums hown
      have H9 := Aside0.mk h9
      have HC4 := Aside0.mk (HC3.out.trans (hb4.mono HC3.out.size))
      have hab : (a ++ b).length = a.length + b.length := List.length_append
      rw [hab] at h8
      have HAB := Aside0.mk hab
      clear hown hb4 h9 hab
      simp only [HAB.out]
      go_wp2_with fail
      refine (cut_at s A4 (a.length + b.length) c4 0 (a ++ b) [] ec _ HAB.out (by omega) h8 H9.out LC.out rfl).mono ?_
      rintro e w5 ⟨A5, c5, rfl, h10, h11, hb5⟩
      have HC5 := Aside0.mk (HC4.out.trans (hb5.mono HC4.out.size))
      have H11 := Aside0.mk h11
      have HT2 := Aside0.mk (H6.out.below HC5.out)
      obtain ⟨ad, rfl, hx⟩ := HT2.out a.length r (by rw [← HP.out]; simp)
      clear hb5 h11
      go_wp2_with fail
      refine (cut_at r B b.length c' 0 b [] ec _ rfl (by omega) hbc (TB.out.below (HB2.out.trans (HC5.out.mono HB2.out.size))) LB.out rfl).mono ?_
      rintro e w6 ⟨A6, c6, rfl, h12, h13, hb6⟩
      have HC6 := Aside0.mk (HC5.out.trans (hb6.mono HC5.out.size))
      have H13 := Aside0.mk h13
      have H11' := Aside0.mk (H11.out.below hb6)
      clear hb6 h13 hx
      go_wp2
      go_ret
      exact ⟨rfl, HB2.out.trans (HC6.out.mono HB2.out.size)⟩
  · have h0 := cutS_first a s b (by rw [hla]; exact hea)
    rw [hla, hlc] at h0
    obtain ⟨rfl, rfl⟩ := Prod.mk.inj h0
    have hb0 : (ec == 0) = false := by simpa using hea
    have hb1 : (ec != 0) = true := by simpa using hea
    have hla0 := cutS_bad s a (by rw [hla]; exact hea)
    rw [hla] at hla0
    simp only at hla0
    subst hla0
    clear h0 hla hlc hea
    go_enter Try.func6, Try.ntmps6
    go_wp2_with (first
      | (go_at_call 17; refine (word_awake_any _).mono ?_; rintro e w1 ⟨rfl, hb1⟩; have HB1 := Aside0.mk hb1; clear hb1)
      | (go_at_call 25; refine (cut_at s A a.length c 0 a [] ec _ rfl (by omega) hac (TA.out.below HB1.out) LA.out rfl).mono ?_; rintro e w2 ⟨A2, c2, rfl, h5, h6, h7⟩; have HB2 := Aside0.mk (HB1.out.trans (h7.mono HB1.out.size)); clear h5 h6 h7))
    have HB3 := Aside0.mk (HB2.out.alloc HB2.out.size (Obj.cells #[.slice A a.length c, .slice B b.length c'] 43))
    have hz2 := HB2.out.size
    refine (concat_two_ints w2.heap.size A B c c' a b _ (by omega) (by omega) (by go_simp) (by go_simp) (reads_nums (TA.out.below HB3.out) (by omega)) (reads_nums (TB.out.below HB3.out) (by omega))).mono ?_
    rintro e w4 ⟨A4, c4, rfl, hown, hb4⟩
    obtain ⟨h8, h9⟩ := own_nums hown
    have H8 := Aside0.mk h8
    have H9 := Aside0.mk h9
    have HB4 := Aside0.mk (HB3.out.trans (hb4.mono HB3.out.size))
    have hab : (a ++ b).length = a.length + b.length := List.length_append
    rw [hab] at h8
    have HAB := Aside0.mk hab
    clear hown hb4 h9 hab
    simp only [HAB.out]
    go_wp2_with fail
    refine (cut_at s A4 (a.length + b.length) c4 0 (a ++ b) [] ec _ HAB.out (by omega) h8 H9.out LC.out rfl).mono ?_
    rintro e w5 ⟨A5, c5, rfl, _, _, hb5⟩
    have HB5 := Aside0.mk (HB4.out.trans (hb5.mono HB4.out.size))
    clear hb5
    go_wp2
    go_ret
    exact ⟨rfl, HB5.out⟩

theorem parts_walk (s : ByteArray) (A : Option Addr) (a : List Int) (c : Nat) (B : Option Addr) (b : List Int) (c' : Nat) (w : World) (hs : s.size ≤ 140737488351232)
    (ta : Nums .i64 w A a) (_ : ∀ x ∈ a, (Lit.int .i64 x).wf = true) (hac : a.length ≤ c) (_ : A = none → c = 0) (ha : a.length * 8 ≤ 140737488351232)
    (tb : Nums .i64 w B b) (_ : ∀ x ∈ b, (Lit.int .i64 x).wf = true) (hbc : b.length ≤ c') (_ : B = none → c' = 0) (hb : b.length * 8 ≤ 140737488351232) :
    Calls Try.prog 6 #[.string s, .slice A a.length c, .slice B b.length c'] w fun e w' => e = .returned (.bool true) ∧ Below w.heap.size w w' := by
  by_cases h : s.size ≤ 300 ∧ a.length ≤ 20 ∧ b.length ≤ 20
  · exact parts_short s A B a b c c' w h.1 h.2.1 h.2.2 hac hbc ta tb
  · exact parts_long s A B a.length b.length c c' w (by omega) (by omega) (by omega) (by omega)
end Go.Proofs.Ytihhclgjjgakpaa.Inbox
