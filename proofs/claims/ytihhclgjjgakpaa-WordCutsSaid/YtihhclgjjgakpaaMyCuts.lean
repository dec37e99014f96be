/- WordCuts: the walk of the law. No conditions but the reach of the arguments. -/
import Derived.Test.YtihhclgjjgakpaaMyBuilder
namespace Go.Proofs.Ytihhclgjjgakpaa.Inbox
open Go.RowKit Go.Proofs.YtihhclgjjgakpaaW.PrintWords Go.Proofs.YtihhclgjjgakpaaW.PrintLast Go.Proofs.YtihhclgjjgakpaaW.PrintMore

/-- The first error, by how many bytes are left. -/
def errS : Nat → List Int → Int
  | _, [] => 0
  | m, n :: ns => if n < 0 then 2 else if n > (m : Int) then 3 else errS (m - n.toNat) ns

theorem cutS_err (l : List Int) : ∀ s, (cutS s l).2 = errS s.size l := by
  induction l with
  | nil => intro s; rfl
  | cons n ns ih =>
    intro s
    simp only [cutS, errS]
    by_cases h1 : n < 0
    · simp [h1]
    · by_cases h2 : n > (s.size : Int)
      · simp [h1, h2]
      · have h3 : (s.extract n.toNat s.size).size = s.size - n.toNat := by rw [ByteArray.size_extract]; omega
        rw [if_neg h1, if_neg h2, if_neg h1, if_neg h2, ← h3, ← ih]
        split
        · next h => exact h.symm
        · rfl

theorem cutS_sizes (l : List Int) : ∀ s, (cutS s l).2 = 0 → ∀ (i : Nat) (x : ByteArray) (n : Int), (cutS s l).1[i]? = some x → l[i]? = some n → (x.size : Int) = n := by
  induction l with
  | nil => intro s h i x n h1 h2; simp at h2
  | cons n ns ih =>
    intro s h i x m h1 h2
    simp only [cutS] at h h1
    by_cases h3 : n < 0
    · simp [h3] at h
    · by_cases h4 : n > (s.size : Int)
      · simp [h3, h4] at h
      · by_cases h5 : (cutS (s.extract n.toNat s.size) ns).2 = 0
        · rw [if_neg h3, if_neg h4, if_pos h5] at h1
          cases i with
          | zero =>
            simp at h1 h2
            rw [← h1, ← h2]
            rw [ByteArray.size_extract]; omega
          | succ i =>
            simp at h1 h2
            exact ih _ h5 i x m h1 h2
        · rw [if_neg h3, if_neg h4, if_neg h5] at h
          exact absurd h h5

theorem cutS_join (l : List Int) : ∀ s, (cutS s l).2 = 0 → ((cutS s l).1.map (·.data.toList)).flatten = s.data.toList := by
  induction l with
  | nil => intro s h; simp [cutS]
  | cons n ns ih =>
    intro s h
    simp only [cutS] at h ⊢
    by_cases h3 : n < 0
    · simp [h3] at h
    · by_cases h4 : n > (s.size : Int)
      · simp [h3, h4] at h
      · by_cases h5 : (cutS (s.extract n.toNat s.size) ns).2 = 0
        · rw [if_neg h3, if_neg h4, if_pos h5]
          simp only [List.map_cons, List.flatten_cons, ih _ h5]
          rw [ByteArray.data_extract, ByteArray.data_extract, Array.toList_extract, Array.toList_extract]
          simp only [List.extract_eq_take_drop, List.drop_zero, Nat.sub_zero]
          rw [List.take_of_length_le (l := s.data.toList.drop n.toNat)]
          · exact List.take_append_drop _ _
          · rw [List.length_drop, data_length]; omega
        · rw [if_neg h3, if_neg h4, if_neg h5] at h
          exact absurd h h5

theorem intercalate_nil (l : List (List UInt8)) : ([] : List UInt8).intercalate l = l.flatten := by
  induction l with
  | nil => rfl
  | cons a l ih =>
    cases l with
    | nil => simp [List.intercalate, List.intersperse]
    | cons b l =>
      simp only [List.intercalate, List.intersperse] at ih ⊢
      simp [ih]

def CutPost2 (l : List ByteArray) (n : Nat) (x : Int) (w : World) (e : Ending) (w' : World) : Prop :=
  ∃ A' c', e = .returned (.tuple #[.slice A' n c', .int .i64 x]) ∧ n ≤ c' ∧ Txt w' A' l ∧ Below w.heap.size w w' ∧ (0 < n → ∃ g, A' = some ⟨g, 0, none⟩)

theorem cut_at2 (s : ByteArray) (A : Option Addr) (m c n : Nat) (sizes : List Int) (l : List ByteArray) (x : Int) (w : World) (hm : sizes.length = m) (hs : m ≤ 1000000) (hc : m ≤ c) (h : Nums .i64 w A sizes) (e : cutS s sizes = (l, x)) (hn : l.length = n) :
    Calls Try.prog 25 #[.string s, .slice A m c] w (CutPost2 l n x w) := by
  subst hm hn
  refine (PWordParts.word_Cut.calls (sizes.length + 1) s A c sizes l x w (Kd.C_of_reads (reads_nums h (by omega))) hc (by rw [cut_f s sizes hs, e])).mono ?_
  rintro e w' ⟨v, rfl, hR, hb⟩
  have hown := Kd.own_of_R hR
  obtain ⟨A', c', rfl, h1, h2, _⟩ := own_txt hown
  refine ⟨A', c', rfl, h1, h2, hb, fun h0 => ?_⟩
  obtain ⟨g, cap, he, _⟩ := hown.form h0
  injection he with he
  exact ⟨g, he⟩

theorem cuts_long (s : ByteArray) (A : Option Addr) (n c : Nat) (w : World) (h : 300 < s.size ∨ 20 < n) (h1 : s.size ≤ 9223372036854775807) (h2 : n ≤ 9223372036854775807) :
    Calls Try.prog 10 #[.string s, .slice A n c] w fun e w' => e = .returned (.bool true) ∧ Below w.heap.size w w' := by
  by_cases h4 : 300 < s.size
  · go_enter Try.func10, Try.ntmps10
    go_wp2_with (go_at_call 17; refine (word_awake_any _).mono ?_; rintro e w1 ⟨rfl, hb1⟩; have HB1 := Aside0.mk hb1; clear hb1)
    go_ret
    exact ⟨rfl, HB1.out⟩
  · have h5 : 20 < n := by omega
    go_enter Try.func10, Try.ntmps10
    go_wp2_with (go_at_call 17; refine (word_awake_any _).mono ?_; rintro e w1 ⟨rfl, hb1⟩; have HB1 := Aside0.mk hb1; clear hb1)
    go_ret
    exact ⟨rfl, HB1.out⟩

theorem join_at (g c n : Nat) (la : List ByteArray) (s : ByteArray) (w : World) (hn : la.length = n) (h1 : 1 ≤ n) (hc : n ≤ c) (hs : s.size ≤ 300) (hj : (la.map (·.data.toList)).flatten = s.data.toList) (hN : n ≤ 1000000) (ht : Txt w (some ⟨g, 0, none⟩) la) :
    Calls Try.prog 36 #[.slice (some ⟨g, 0, none⟩) n c, .string ⟨#[]⟩] w fun e w' => e = .returned (.string s) ∧ Below w.heap.size w w' := by
  subst hn
  have hcell : ∀ (j : Nat) x, la[j]? = some x → w.cell? ⟨g, 0 + j, none⟩ = some (.string x) := by
    intro j x hx
    obtain ⟨ad, had, hc⟩ := ht j x hx
    obtain rfl := Option.some.inj had
    rw [Nat.zero_add, ← add_plain]; exact hc
  have hjoin : Lib.join (la.map (·.data.toList)) (⟨#[]⟩ : ByteArray).data.toList = s.data.toList := by
    unfold Lib.join
    rw [show (⟨#[]⟩ : ByteArray).data.toList = [] from rfl, intercalate_nil, hj]
  have h0 := hcell 0 la[0] (List.getElem?_eq_getElem (by omega))
  have := Try.strings_Join g 0 c la ⟨#[]⟩ w hcell (World.block_lt_of_cell? w _ h0) (by omega) hc (by rw [hjoin, data_length]; omega)
  rw [hjoin] at this
  exact this

/-- The law's own reckoning of the first error. -/
def Seen (m : Nat) (a : List Int) (at_ want i : Value) : Prop :=
  ∃ (k p : Nat) (e : Int), k ≤ a.length ∧ p ≤ m ∧ i = .int .i64 (k : Int) ∧ at_ = .int .i64 (p : Int) ∧ want = .int .i64 e ∧ ((e = 0 ∧ errS m a = errS (m - p) (a.drop k)) ∨ (e ≠ 0 ∧ e = errS m a))

def Each (a : List Int) (i : Value) : Prop := ∃ k : Nat, k ≤ a.length ∧ i = .int .i64 (k : Int)

set_option maxHeartbeats 2000000 in
theorem cuts_short (s : ByteArray) (A : Option Addr) (a : List Int) (c : Nat) (w : World) (hs : s.size ≤ 300) (ha : a.length ≤ 20) (hac : a.length ≤ c) (ta : Nums .i64 w A a) (wa : ∀ x ∈ a, (Lit.int .i64 x).wf = true) :
    Calls Try.prog 10 #[.string s, .slice A a.length c] w fun e w' => e = .returned (.bool true) ∧ Below w.heap.size w w' := by
  have TA := Aside0.mk ta
  have WA := Aside0.mk wa
  clear ta wa
  obtain ⟨la, ea, hla⟩ : ∃ l x, cutS s a = (l, x) := ⟨_, _, rfl⟩
  have LA := Aside0.mk hla
  have hea : ea = errS s.size a := by rw [← cutS_err, hla]
  obtain ⟨n, hn⟩ : ∃ n, la.length = n := ⟨_, rfl⟩
  have HN := Aside0.mk hn
  have HEA := Aside0.mk hea
  clear hla hea hn
  go_enter Try.func10, Try.ntmps10
  go_wp2_with (first
    | (go_at_call 17; refine (word_awake_any _).mono ?_; rintro e w1 ⟨rfl, hb1⟩; have HB1 := Aside0.mk hb1; clear hb1)
    | (go_at_call 25; refine (cut_at2 s A a.length c n a la ea _ rfl (by omega) hac (TA.out.below HB1.out) LA.out HN.out).mono ?_; rintro e w2 ⟨A2, c2, rfl, h5, h6, h7, h8⟩; have HB2 := Aside0.mk (HB1.out.trans (h7.mono HB1.out.size)); have H6 := Aside0.mk h6; have H8 := Aside0.mk h8; clear h6 h7 h8))
  go_loop [7, 8, 31] (fun t e i => Seen s.size a t e i) (fun _ _ i => a.length - (intOf i).toNat)
  case atStart => exact ⟨0, 0, 0, Nat.zero_le _, Nat.zero_le _, rfl, rfl, rfl, .inl ⟨rfl, rfl⟩⟩
  case round =>
    obtain ⟨k, p, e, hk, hp, rfl, rfl, rfl, hor⟩ := hrel
    have HOR := Aside0.mk hor
    clear hor
    by_cases hlt : k < a.length
    · obtain ⟨ad, rfl, hx0⟩ := TA.out k a[k] (List.getElem?_eq_getElem hlt)
      have hx := pw_cell_below HB2.out hx0
      clear hx0
      have hwk := Own.wfi64 (WA.out a[k] (List.getElem_mem hlt))
      have hdr : a.drop k = a[k] :: a.drop (k + 1) := List.drop_eq_getElem_cons hlt
      have HDR := Aside0.mk hdr
      clear hdr
      generalize hN : a[k] = N at hx HDR hwk
      clear hN
      by_cases he : e = 0
      · subst he
        have hq : errS s.size a = errS (s.size - p) (N :: a.drop (k + 1)) := by
          rcases HOR.out with ⟨_, h⟩ | ⟨h, _⟩
          · rw [h, HDR.out]
          · exact absurd rfl h
        have HQ := Aside0.mk hq
        clear hq
        by_cases h1 : N < 0
        · go_wp2
          go_round
          case rel =>
            refine ⟨k + 1, p, 2, hlt, hp, by go_num, rfl, rfl, .inr ⟨by decide, ?_⟩⟩
            rw [HQ.out, errS, if_pos h1]
          case measure => simp [intOf]; omega
        · by_cases h2 : N > (s.size : Int) - (p : Int)
          · go_wp2
            go_round
            case rel =>
              refine ⟨k + 1, p, 3, hlt, hp, by go_num, rfl, rfl, .inr ⟨by decide, ?_⟩⟩
              rw [HQ.out, errS, if_neg h1, if_pos (by omega)]
            case measure => simp [intOf]; omega
          · obtain ⟨d, rfl⟩ := Int.eq_ofNat_of_zero_le (show 0 ≤ N by omega)
            go_wp2
            go_round
            case rel =>
              refine ⟨k + 1, p + d, 0, hlt, by omega, by go_num, by go_num, rfl, .inl ⟨rfl, ?_⟩⟩
              rw [HQ.out, errS, if_neg h1, if_neg (by omega)]
              congr 1
              omega
            case measure => simp [intOf]; omega
      · have hb0 : (e == 0) = false := by simpa using he
        have hb1 : (e != 0) = true := by simpa using he
        have HE := Aside0.mk he
        clear he
        go_wp2
        go_round
        case rel =>
          refine ⟨k + 1, p, e, hlt, hp, by go_num, rfl, rfl, .inr ⟨HE.out, ?_⟩⟩
          rcases HOR.out with ⟨h, _⟩ | ⟨_, h⟩
          · exact absurd h HE.out
          · exact h
        case measure => simp [intOf]; omega
    · obtain rfl : k = a.length := by omega
      have hee : e = ea := by
        rcases HOR.out with ⟨h, h'⟩ | ⟨_, h⟩
        · rw [List.drop_length, errS] at h'
          rw [HEA.out, h', h]
        · rw [HEA.out, h]
      subst hee
      clear HOR
      by_cases he : e = 0
      · subst he
        have hlen := cutS_len a s (by rw [LA.out])
        rw [LA.out] at hlen
        simp only at hlen
        obtain rfl : n = a.length + 1 := by rw [← HN.out, hlen]
        obtain ⟨g, rfl⟩ := H8.out (by omega)
        clear hlen
        go_wp2_with fail
        go_loop [68] (fun i => Each a i) (fun i => a.length - (intOf i).toNat)
        case atStart => exact ⟨0, Nat.zero_le _, rfl⟩
        case round =>
          obtain ⟨j, hj, rfl⟩ := hrel
          by_cases hlt : j < a.length
          · have hlt2 : j < la.length := by have := HN.out; omega
            obtain ⟨ad, rfl, hx0⟩ := TA.out j a[j] (List.getElem?_eq_getElem hlt)
            have hx := pw_cell_below HB2.out hx0
            obtain ⟨ad2, had2, hy⟩ := H6.out j la[j] (List.getElem?_eq_getElem hlt2)
            obtain rfl := Option.some.inj had2
            have hsz := cutS_sizes a s (by rw [LA.out]) j la[j] a[j] (by rw [LA.out]; exact List.getElem?_eq_getElem hlt2) (List.getElem?_eq_getElem hlt)
            have hy' : w2.cell? ⟨g, j, none⟩ = some (.string la[j]) := by rw [← hy, add_plain]
            have hsm : la[j].size ≤ 9223372036854775807 := by have := Own.wfi64 (WA.out a[j] (List.getElem_mem hlt)); omega
            rw [← hsz] at hx
            clear hx0 hsz hy had2
            generalize la[j] = X at hx hy' hsm
            go_wp2
            go_round
            case rel => exact ⟨j + 1, hlt, by go_num⟩
            case measure => simp [intOf]; omega
          · obtain rfl : j = a.length := by omega
            go_wp2_with fail
            refine (join_at g c2 (a.length + 1) la s w2 HN.out (by omega) h5 hs (by have := cutS_join a s (by rw [LA.out]); rw [LA.out] at this; exact this) (by omega) H6.out).mono ?_
            rintro e w5 ⟨rfl, hb5⟩
            have HB5 := Aside0.mk hb5
            clear hb5
            go_wp2
            go_ret
            exact ⟨rfl, HB2.out.trans (HB5.out.mono HB2.out.size)⟩
      · have hb0 : (e == 0) = false := by simpa using he
        have hb1 : (e != 0) = true := by simpa using he
        have hl0 := cutS_bad s a (by rw [LA.out]; exact he)
        rw [LA.out] at hl0
        simp only at hl0
        subst hl0
        obtain rfl : n = 0 := by rw [← HN.out]; rfl
        clear he
        go_wp2
        go_ret
        exact ⟨rfl, HB2.out⟩

theorem cuts_walk (s : ByteArray) (A : Option Addr) (a : List Int) (c : Nat) (w : World) (hs : s.size ≤ 140737488351232)
    (ta : Nums .i64 w A a) (wa : ∀ x ∈ a, (Lit.int .i64 x).wf = true) (hac : a.length ≤ c) (_ : A = none → c = 0) (ha : a.length * 8 ≤ 140737488351232) :
    Calls Try.prog 10 #[.string s, .slice A a.length c] w fun e w' => e = .returned (.bool true) ∧ Below w.heap.size w w' := by
  by_cases h : s.size ≤ 300 ∧ a.length ≤ 20
  · exact cuts_short s A a c w h.1 h.2 hac ta wa
  · exact cuts_long s A a.length c w (by omega) (by omega) (by omega)
end Go.Proofs.Ytihhclgjjgakpaa.Inbox
