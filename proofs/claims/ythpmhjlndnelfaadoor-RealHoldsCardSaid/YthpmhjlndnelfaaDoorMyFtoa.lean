/- FormatFloat and Text at one half: their contracts. The conditions: the table of tens, and one row of the table of scales, are laid. -/
import Derived.Test.YthpmhjlndnelfaaDoorMySet
import Derived.Lib.LaidTab
import Derived.Laws.MakeOwn
namespace Go.Proofs.YthpmhjlndnelfaaDoor.Real
open Go.RowKit Go.Lib Go.Sort Go.Proofs.YthpmhjlndnelfaaDoorW.PrintWords

/-- What the walks ask of the library's tables. -/
structure Tabs (w : World) : Prop where
  big : 4 < w.heap.size
  hi : w.cell? ⟨4, 730, none⟩ = some (.int .u64 12800000000000000000)
  lo : w.cell? ⟨4, 731, none⟩ = some (.int .u64 0)
  tens : TabIs Tryd.prog w "internal/strconv.uint64pow10" .u64 pow10Tab

theorem tab_below {w w' : World} {name : String} {k : IntKind} {zs : List Int} (h : TabIs Tryd.prog w name k zs) (hb : Below w.heap.size w w') : TabIs Tryd.prog w' name k zs := by
  unfold TabIs World.var? at *
  cases hg : Tryd.prog.globalNamed name with
  | none => simp [hg] at h
  | some g =>
    simp only [hg, Option.bind_some] at h ⊢
    have hlt : g < w.heap.size := by
      rcases Nat.lt_or_ge g w.heap.size with h' | h'
      · exact h'
      · rw [Array.getElem?_eq_none h'] at h; simp at h
    rw [hb.block g hlt]
    exact h

theorem Tabs.below {w w' : World} (h : Tabs w) (hb : Below w.heap.size w w') : Tabs w' :=
  ⟨Nat.lt_of_lt_of_le h.big hb.size, by rw [hb.cell h.big]; exact h.hi, by rw [hb.cell h.big]; exact h.lo, tab_below h.tens hb⟩

theorem own_move {w w2 : World} {base size n : Nat} {e : TypeId} {v : Value} {xs : List Value} (h : w.ownsRow base e size v n xs) (hb : ∀ g, g < w.heap.size → w2.heap[g]? = w.heap[g]?) : w2.ownsRow base e size v n xs := by
  refine ⟨h.1, ?_⟩
  rcases h.2 with h | ⟨g, cap, cur, rfl, h1, h2, h3⟩
  · exact .inl h
  · exact .inr ⟨g, cap, cur, rfl, h1, (hb g (Array.getElem?_eq_some_iff.1 h2).1).trans h2, h3⟩

theorem own_ne_new {w : World} {base size n : Nat} {e : TypeId} {v : Value} {xs : List Value} (h : w.ownsRow base e size v n xs) : v.ownBlock ≠ some w.heap.size := by
  rcases h.2 with ⟨rfl, _⟩ | ⟨g, cap, cur, rfl, h1, h2, h3⟩
  · simp [Value.ownBlock]
  · have := (Array.getElem?_eq_some_iff.1 h2).1
    simp [Value.ownBlock]
    omega

def zeros32 : Array Value := #[.int .u8 0, .int .u8 0, .int .u8 0, .int .u8 0, .int .u8 0, .int .u8 0, .int .u8 0, .int .u8 0, .int .u8 0, .int .u8 0, .int .u8 0, .int .u8 0, .int .u8 0, .int .u8 0, .int .u8 0, .int .u8 0,
  .int .u8 0, .int .u8 0, .int .u8 0, .int .u8 0, .int .u8 0, .int .u8 0, .int .u8 0, .int .u8 0, .int .u8 0, .int .u8 0, .int .u8 0, .int .u8 0, .int .u8 0, .int .u8 0, .int .u8 0, .int .u8 0]

theorem b1 : Go.bits .and .i64 1022 2047 = 1022 := by decide +kernel
theorem b2 : Go.bits .and .u64 4602678819172646912 4503599627370495 = 0 := by decide +kernel
theorem b3 : Go.bits .or .u64 0 4503599627370496 = 4503599627370496 := by decide +kernel
theorem len_half : Lib.bitLen 4503599627370496 = 53 := by decide +kernel
theorem len_at (w : World) : Calls Tryd.prog 89 #[.int .u64 4503599627370496] w fun e w' => e = .returned (.int .i64 53) ∧ w = w' :=
  (Tryd.bits_Len64 4503599627370496 w (by decide) (by decide)).mono fun _ _ ⟨h1, h2⟩ => ⟨by rw [h1]; exact congrArg (fun n : Nat => Ending.returned (.int .i64 (n : Int))) len_half, h2.symm⟩

theorem f85 (b : Nat) (w : World) : (callFunc 85 #[.float .f64 b]).run Tryd.prog w = .ok (.value (.int .u64 (b : Int))) w := by kernel_rfl
theorem f69 (b : Nat) (w : World) : (callFunc 69 #[.float .f64 b]).run Tryd.prog w = .ok (.value (.int .u64 (b : Int))) w := by kernel_rfl
theorem f41 (n : Int) (w : World) : (callFunc 41 #[.int .u64 n]).run Tryd.prog w = .ok (.value (.float .f64 n.toNat)) w := by kernel_rfl

theorem sl32 (a : Addr) (W : World) : (Instr.sliceAt 108 (.pointer (some a)) none none none).run Tryd.prog W = .ok (.slice (some a) 32 32) W := by kernel_rfl

theorem short_at (w : World) (ht : Tabs w) :
    Calls Tryd.prog 98 #[.int .u64 9223372036854775808, .int .i64 (-64)] w fun e w' => e = .returned (.tuple #[.int .u64 5000000000000000, .int .i64 (-16)]) ∧ Below w.heap.size w w' :=
  (short_half w ht.big ht.hi ht.lo).mono fun _ _ ⟨h1, h2⟩ => ⟨h1, by rw [h2]; exact (Below.refl _ _).alloc (Nat.le_refl _) _⟩

theorem nd_at (w : World) (ht : Tabs w) : Calls Tryd.prog 92 #[.int .u64 5000000000000000] w fun e w' => e = .returned (.int .i64 16) ∧ w = w' :=
  (Tryd.internal_strconv_numDigits 5000000000000000 (by decide) (by decide) w ht.tens).mono fun _ _ ⟨h1, h2⟩ => ⟨by rw [h1]; exact congrArg (fun n : Nat => Ending.returned (.int .i64 (n : Int))) (by simp [nDigits]), h2.symm⟩

theorem holds32 (W : World) (b : Nat) (t : TypeId) (h : W.heap[b]? = some (.cells zeros32 t (0, 0))) : Holds encB W b 0 (Array.replicate 16 0) := fun j hj => by
  have hj' : j < 16 := by simpa using hj
  refine ⟨?_, ?_⟩
  · rw [Nat.zero_add]
    have e : W.cell? ⟨b, j, none⟩ = zeros32[j]? := by simp [World.cell?, h]
    have hz : zeros32[j]? = some (Value.int .u8 0) := by
      have h16 : j = 0 ∨ j = 1 ∨ j = 2 ∨ j = 3 ∨ j = 4 ∨ j = 5 ∨ j = 6 ∨ j = 7 ∨ j = 8 ∨ j = 9 ∨ j = 10 ∨ j = 11 ∨ j = 12 ∨ j = 13 ∨ j = 14 ∨ j = 15 := by omega
      rcases h16 with rfl | rfl | rfl | rfl | rfl | rfl | rfl | rfl | rfl | rfl | rfl | rfl | rfl | rfl | rfl | rfl <;> rfl
    rw [e, hz]
    rw [getElem!_pos _ j (by simpa using hj')]
    simp
  · simp [World.frozen?, h]

set_option maxHeartbeats 4000000 in
set_option maxRecDepth 100000 in
theorem ftoa_half (w0 w : World) (A : Option Addr) (c : Nat) (hB : Below w0.heap.size w0 w) (hown : w.ownsRow w0.heap.size 5 1 (.slice A 0 c) 0 (nums .u8 [])) (ht : Tabs w) :
    Calls Tryd.prog 83 #[.slice A 0 c, .float .f64 4602678819172646912, .int .u8 103, .int .i64 (-1)] w fun e w' => EfgRes w0 e w' := by
  have hb1 := b1
  have hb2 := b2
  have hb3 := b3
  have HB := Aside0.mk hB
  have HO := Aside0.mk hown
  have HT := Aside0.mk ht
  clear hB hown ht
  go_enter Tryd.func83, Tryd.ntmps83
  have h85 : ∀ W, (callFunc 85 #[.float .f64 4602678819172646912]).run Tryd.prog W = .ok (.value (.int .u64 4602678819172646912)) W := fun W => f85 4602678819172646912 W
  go_wp2
  go_region
  go_wp2_with (go_at_call 89; refine (len_at _).mono ?_; rintro e w' ⟨rfl, rfl⟩)
  have hb01 : Below w.heap.size w ((w.alloc (.cells zeros32 108)).drew) := ((Below.refl _ _).alloc (Nat.le_refl _) _).drew
  refine (short_at ((w.alloc (.cells zeros32 108)).drew) (HT.out.below hb01)).mono ?_
  rintro e w2 ⟨rfl, hb2⟩
  have hbuf : w2.heap[w.heap.size]? = some (.cells zeros32 108) := by
    rw [hb2.block w.heap.size (by simp)]
    exact heap_alloc_new w _
  have HBUF := Aside0.mk hbuf
  have HT2 := Aside0.mk ((HT.out.below hb01).below hb2)
  have HB2 := Aside0.mk (hb01.trans (hb2.mono hb01.size))
  have hsz2 : w.heap.size < w2.heap.size := by
    have := hb2.size
    simp at this
    omega
  clear hb01 hb2 hbuf
  have hsl := fun W => sl32 ⟨w.heap.size, 0, none⟩ W
  go_wp2
  go_region_with (first
    | (go_at_call 92; refine (nd_at _ (HT2.out.below ((Below.refl _ _).drew))).mono ?_; rintro e w3 ⟨rfl, rfl⟩)
    | (go_at_call 91; refine (set_half w2.drew w.heap.size (holds32 w2.drew w.heap.size 108 HBUF.out)).mono ?_; rintro e w3 ⟨rfl, hb3, hc3⟩; have HB3 := Aside0.mk hb3; have HC3 := Aside0.mk hc3; clear hb3 hc3))
  have HSL := Aside0.mk hsl
  clear hsl
  have hb4 : Below w.heap.size w w3 := (HB2.out.drew).trans HB3.out
  have hb5 : Below w0.heap.size w0 w3 := HB.out.trans (hb4.mono HB.out.size)
  have ho5 := own_move HO.out (fun g hg => hb4.block g hg)
  have HB5 := Aside0.mk hb5
  have HO5 := Aside0.mk ho5
  clear hb4 hb5 ho5
  have hsl := HSL.out
  go_wp2_with (go_at_call 88; refine (efg_half w0 w3 A c w.heap.size HB5.out HO5.out HC3.out (own_ne_new HO.out)).mono ?_; rintro e w6 ⟨v, rfl, ho6, hb6⟩; have HO6 := Aside0.mk ho6; have HB6 := Aside0.mk hb6; clear ho6 hb6)
  go_ret
  exact ⟨v, rfl, HO6.out, HB6.out⟩

set_option maxHeartbeats 4000000 in
theorem format_half (w : World) (ht : Tabs w) :
    Calls Tryd.prog 81 #[.float .f64 4602678819172646912, .int .u8 103, .int .i64 (-1), .int .i64 64] w fun e w' => e = .returned (.string ⟨#[48, 46, 53]⟩) ∧ Below w.heap.size w w' := by
  obtain ⟨i5, hi5, hz5⟩ := Option.map_eq_some_iff.1 info5'
  simp only [Prod.mk.injEq] at hz5
  obtain ⟨w1, hrun, hown, hgr⟩ := run_makeSlice_owned (P := Tryd.prog) w w.heap.size 94 5 i5 (.int .u8 0) 1 Tryd.underlying94 hi5 hz5.1 hz5.2.1 .i64 .i64 24 (by decide) (by rw [hz5.2.2]; decide) (by unfold maxLen; decide) (Nat.le_refl _)
  have hmk : (Instr.makeSlice 94 (.int .i64 0) (.int .i64 24)).run Tryd.prog w = .ok (.slice (some ⟨w.heap.size, 0, none⟩) 0 24) w1 := hrun
  have hB1 : Below w.heap.size w w1 := (Below.refl _ _).grown hgr (Nat.le_refl _) (fun k hk => by cases hk)
  have HO := Aside0.mk hown
  have HB := Aside0.mk hB1
  have HT := Aside0.mk ht
  have hm : max (3 : Int) 24 = 24 := rfl
  clear hrun hown hgr hB1 ht hi5 hz5
  go_enter Tryd.func81, Tryd.ntmps81
  go_wp2_with fail
  refine (ftoa_half w w1 (some ⟨w.heap.size, 0, none⟩) 24 HB.out HO.out (HT.out.below HB.out)).mono ?_
  rintro e w6 ⟨v, rfl, ho6, hb6⟩
  have HO6 := Aside0.mk ho6
  have HB6 := Aside0.mk hb6
  obtain ⟨A6, c6, rfl⟩ := own_slice ho6
  have hcv : (convert 94 9 (.slice A6 3 c6)).run Tryd.prog w6 = .ok (.string ⟨#[48, 46, 53]⟩) w6 := own_string Tryd.underlying94 Tryd.underlying5 Tryd.underlying9 ho6
  clear ho6 hb6 hmk
  go_wp2
  go_ret
  exact ⟨rfl, HB6.out⟩
end Go.Proofs.YthpmhjlndnelfaaDoor.Real
