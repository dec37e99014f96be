/- A row of floats; Least, Most, Hold: their contracts. The conditions: 64 bits each. -/
import Derived.Test.YthpmhjlndnelfaaDoorMyRef2
import Derived.Test.YthpmhjlndnelfaaDoorMyOrder
import Derived.Deep.Slices
import Derived.Deep.Fields
import Derived.ChangeSame
namespace Go.Proofs.YthpmhjlndnelfaaDoor.Real
open Go.RowKit Go.Lib Go.Proofs.YthpmhjlndnelfaaDoorW.PrintWords
open Go.ChangeShapes Go.WideShapes Go.Deep

/-- A row of floats in memory. -/
def Flts (w : World) (A : Option Addr) (l : List Nat) : Prop := ∀ (i b : Nat), l[i]? = some b → b < 18446744073709551616 ∧ ∃ ad, A = some ad ∧ w.cell? (ad.add i) = some (.float .f64 b)

theorem Flts.below {w w1 : World} {A : Option Addr} {l : List Nat} (h : Flts w A l) (hb : Below w.heap.size w w1) : Flts w1 A l := by
  intro i b hi
  obtain ⟨h0, ad, had, hc⟩ := h i b hi
  exact ⟨h0, ad, had, pw_cell_below hb hc⟩
theorem Flts.drew {w : World} {A : Option Addr} {l : List Nat} (h : Flts w A l) (n : Nat) : Flts (w.drewN n) A l := h

/-- The one that is kept of two: for the first, for the last. -/
def lo (m x : Nat) : Nat := if cp x m < 0 then x else m
def hi (m x : Nat) : Nat := if cp x m > 0 then x else m
def foldR (f : Nat → Nat → Nat) : List Nat → Nat
  | [] => 9221120237041090561
  | x :: l => l.foldl f x

theorem foldR_snoc (f : Nat → Nat → Nat) (l : List Nat) (x : Nat) (h : l ≠ []) : foldR f (l ++ [x]) = f (foldR f l) x := by
  cases l with
  | nil => exact absurd rfl h
  | cons y l => simp [foldR]

theorem foldR_take (f : Nat → Nat → Nat) (l : List Nat) (k : Nat) (h0 : 0 < k) (h : k < l.length) : foldR f (l.take (k + 1)) = f (foldR f (l.take k)) l[k] := by
  have e : l.take (k + 1) = l.take k ++ [l[k]] := (List.take_append_getElem h).symm
  rw [e, foldR_snoc]
  intro hn
  have : min k l.length = 0 := by rw [← List.length_take, hn]; rfl
  omega

theorem foldl_mem (f : Nat → Nat → Nat) (hf : ∀ m x, f m x = m ∨ f m x = x) : ∀ (l : List Nat) (m : Nat), l.foldl f m = m ∨ l.foldl f m ∈ l
  | [], m => .inl rfl
  | y :: l, m => by
    rcases foldl_mem f hf l (f m y) with h | h
    · rcases hf m y with e | e
      · left; rw [List.foldl_cons, h, e]
      · right; rw [List.foldl_cons, h, e]; exact List.mem_cons_self
    · right; rw [List.foldl_cons]; exact List.mem_cons_of_mem _ h

theorem foldR_mem (f : Nat → Nat → Nat) (hf : ∀ m x, f m x = m ∨ f m x = x) (l : List Nat) (h : l ≠ []) : foldR f l ∈ l := by
  cases l with
  | nil => exact absurd rfl h
  | cons x l =>
    rcases foldl_mem f hf l x with e | e
    · show l.foldl f x ∈ _; rw [e]; exact List.mem_cons_self
    · exact List.mem_cons_of_mem _ e

theorem lo_or (m x : Nat) : lo m x = m ∨ lo m x = x := by unfold lo; split; exact .inr rfl; exact .inl rfl
theorem hi_or (m x : Nat) : hi m x = m ∨ hi m x = x := by unfold hi; split; exact .inr rfl; exact .inl rfl

theorem cp_lt (a b : Nat) : cp a b < 0 ↔ tk a < tk b := by
  unfold cp ci
  split
  · constructor <;> intro <;> omega
  · split <;> constructor <;> intro <;> omega
theorem cp_gt (a b : Nat) : cp a b > 0 ↔ tk b < tk a := by
  unfold cp ci
  split
  · constructor <;> intro <;> omega
  · split <;> constructor <;> intro <;> omega

theorem lo_le (m x : Nat) : tk (lo m x) ≤ tk m ∧ tk (lo m x) ≤ tk x := by
  have := cp_lt x m
  unfold lo
  split <;> constructor <;> omega
theorem hi_ge (m x : Nat) : tk m ≤ tk (hi m x) ∧ tk x ≤ tk (hi m x) := by
  have := cp_gt x m
  unfold hi
  split <;> constructor <;> omega

theorem lo_foldl : ∀ (l : List Nat) (m : Nat), tk (l.foldl lo m) ≤ tk m
  | [], _ => Int.le_refl _
  | y :: l, m => Int.le_trans (lo_foldl l (lo m y)) (lo_le m y).1
theorem hi_foldl : ∀ (l : List Nat) (m : Nat), tk m ≤ tk (l.foldl hi m)
  | [], _ => Int.le_refl _
  | y :: l, m => Int.le_trans (hi_ge m y).1 (hi_foldl l (hi m y))

/-- The first isn't behind the last. -/
theorem least_most (l : List Nat) : cp (foldR lo l) (foldR hi l) ≤ 0 := by
  rw [cp_le]
  cases l with
  | nil => exact Int.le_refl _
  | cons x l => exact Int.le_trans (lo_foldl l x) (hi_foldl l x)

theorem Flts.fold {w : World} {A : Option Addr} {l : List Nat} (h : Flts w A l) (f : Nat → Nat → Nat) (hf : ∀ m x, f m x = m ∨ f m x = x) : foldR f l < 18446744073709551616 := by
  cases hl : l with
  | nil => show 9221120237041090561 < _; omega
  | cons x l' =>
    have := foldR_mem f hf l (by rw [hl]; simp)
    rw [hl] at this
    obtain ⟨i, hi⟩ := List.getElem?_of_mem this
    rw [← hl] at hi
    have := (h i _ hi).1
    rw [hl] at this
    exact this

theorem Flts.take {w : World} {A : Option Addr} {l : List Nat} (h : Flts w A l) (k : Nat) : Flts w A (l.take k) := by
  intro i b hi
  have hlt := (List.getElem?_eq_some_iff.1 hi).1
  rw [List.length_take] at hlt
  rw [List.getElem?_take_of_lt (by omega)] at hi
  exact h i b hi

def FoldRel (f : Nat → Nat → Nat) (l : List Nat) (m i : Value) : Prop := ∃ k : Nat, 0 < k ∧ k ≤ l.length ∧ m = .float .f64 (foldR f (l.take k)) ∧ i = .int .i64 (k : Int)

set_option maxHeartbeats 1000000 in
theorem min_any (A : Option Addr) (l : List Nat) (c : Nat) (w : World) (h0 : l ≠ []) (hm : l.length ≤ 9223372036854775807) (ta : Flts w A l) :
    Calls Tryd.prog 66 #[.slice A l.length c, .func (.func 16) #[] #[]] w fun e w' => e = .returned (.float .f64 (foldR lo l)) ∧ w = w' := by
  have hn0 : l.length ≠ 0 := by simpa using h0
  have TA := Aside0.mk ta
  obtain ⟨z, hz⟩ : ∃ z, l[0]? = some z := ⟨_, List.getElem?_eq_getElem (by omega)⟩
  obtain ⟨z1, ad, rfl, hc0⟩ := ta 0 z hz
  have hc0 : w.cell? ad = some (.float .f64 z) := by simpa [Addr.add] using hc0
  have hl1 : ¬ ((l.length : Int) < 1) := by omega
  have hl2 : (0 : Int) < (l.length : Int) := by omega
  have hz1 : foldR lo (l.take 1) = z := by
    cases l with
    | nil => exact absurd rfl h0
    | cons x l => simpa [foldR] using hz
  have HZ := Aside0.mk hz1
  clear ta hz hz1 h0
  go_enter Tryd.func66, Tryd.ntmps66
  go_wp2
  go_loop [5, 6] (fun m i => FoldRel lo l m i) (fun _ i => l.length - (RowKit.intOf i).toNat)
  case atStart => exact ⟨1, by omega, by omega, by rw [HZ.out], rfl⟩
  case round =>
    obtain ⟨k, hk0, hk, rfl, rfl⟩ := hrel
    have hb := (TA.out.take k).fold lo lo_or
    have HF := foldR_take lo l k hk0
    have HL := Aside0.mk (fun (h : k = l.length) => congrArg (foldR lo) (show l.take k = l by rw [h, List.take_length]))
    generalize foldR lo (l.take k) = M at *
    by_cases hlt : k < l.length
    · obtain ⟨x1, ad', he, hx⟩ := TA.out k l[k] (List.getElem?_eq_getElem hlt)
      obtain rfl := Option.some.inj he
      have HF := Aside0.mk (HF hlt)
      generalize l[k] = X at *
      obtain ⟨r, hr⟩ : ∃ r, cp X M = r := ⟨_, rfl⟩
      have HC := Aside0.mk (cmp_at X M r x1 hb hr)
      by_cases hg : r < 0
      · have hd : decide (r < 0) = true := decide_eq_true hg
        have HE : Aside0 (lo M X = X) := ⟨by unfold lo; rw [hr, if_pos hg]⟩
        clear hr hg
        go_wp2_with (go_at_call 16; refine (HC.out _).mono ?_; rintro e w' ⟨rfl, rfl⟩)
        go_round
        case rel => exact ⟨k + 1, by omega, hlt, by rw [HF.out, HE.out], by go_num⟩
        case measure => simp [RowKit.intOf]; omega
      · have hd : decide (r < 0) = false := decide_eq_false hg
        have HE : Aside0 (lo M X = M) := ⟨by unfold lo; rw [hr, if_neg hg]⟩
        clear hr hg
        go_wp2_with (go_at_call 16; refine (HC.out _).mono ?_; rintro e w' ⟨rfl, rfl⟩)
        go_round
        case rel => exact ⟨k + 1, by omega, hlt, by rw [HF.out, HE.out], by go_num⟩
        case measure => simp [RowKit.intOf]; omega
    · obtain rfl : k = l.length := by omega
      obtain rfl := HL.out rfl
      clear HF hb
      go_wp2
      go_ret
      exact ⟨rfl, rfl⟩

set_option maxHeartbeats 1000000 in
theorem max_any (A : Option Addr) (l : List Nat) (c : Nat) (w : World) (h0 : l ≠ []) (hm : l.length ≤ 9223372036854775807) (ta : Flts w A l) :
    Calls Tryd.prog 67 #[.slice A l.length c, .func (.func 16) #[] #[]] w fun e w' => e = .returned (.float .f64 (foldR hi l)) ∧ w = w' := by
  have hn0 : l.length ≠ 0 := by simpa using h0
  have TA := Aside0.mk ta
  obtain ⟨z, hz⟩ : ∃ z, l[0]? = some z := ⟨_, List.getElem?_eq_getElem (by omega)⟩
  obtain ⟨z1, ad, rfl, hc0⟩ := ta 0 z hz
  have hc0 : w.cell? ad = some (.float .f64 z) := by simpa [Addr.add] using hc0
  have hl1 : ¬ ((l.length : Int) < 1) := by omega
  have hl2 : (0 : Int) < (l.length : Int) := by omega
  have hz1 : foldR hi (l.take 1) = z := by
    cases l with
    | nil => exact absurd rfl h0
    | cons x l => simpa [foldR] using hz
  have HZ := Aside0.mk hz1
  clear ta hz hz1 h0
  go_enter Tryd.func67, Tryd.ntmps67
  go_wp2
  go_loop [5, 6] (fun m i => FoldRel hi l m i) (fun _ i => l.length - (RowKit.intOf i).toNat)
  case atStart => exact ⟨1, by omega, by omega, by rw [HZ.out], rfl⟩
  case round =>
    obtain ⟨k, hk0, hk, rfl, rfl⟩ := hrel
    have hb := (TA.out.take k).fold hi hi_or
    have HF := foldR_take hi l k hk0
    have HL := Aside0.mk (fun (h : k = l.length) => congrArg (foldR hi) (show l.take k = l by rw [h, List.take_length]))
    generalize foldR hi (l.take k) = M at *
    by_cases hlt : k < l.length
    · obtain ⟨x1, ad', he, hx⟩ := TA.out k l[k] (List.getElem?_eq_getElem hlt)
      obtain rfl := Option.some.inj he
      have HF := Aside0.mk (HF hlt)
      generalize l[k] = X at *
      obtain ⟨r, hr⟩ : ∃ r, cp X M = r := ⟨_, rfl⟩
      have HC := Aside0.mk (cmp_at X M r x1 hb hr)
      by_cases hg : r > 0
      · have hd : decide (r > 0) = true := decide_eq_true hg
        have HE : Aside0 (hi M X = X) := ⟨by unfold hi; rw [hr, if_pos hg]⟩
        clear hr hg
        go_wp2_with (go_at_call 16; refine (HC.out _).mono ?_; rintro e w' ⟨rfl, rfl⟩)
        go_round
        case rel => exact ⟨k + 1, by omega, hlt, by rw [HF.out, HE.out], by go_num⟩
        case measure => simp [RowKit.intOf]; omega
      · have hd : decide (r > 0) = false := decide_eq_false hg
        have HE : Aside0 (hi M X = M) := ⟨by unfold hi; rw [hr, if_neg hg]⟩
        clear hr hg
        go_wp2_with (go_at_call 16; refine (HC.out _).mono ?_; rintro e w' ⟨rfl, rfl⟩)
        go_round
        case rel => exact ⟨k + 1, by omega, hlt, by rw [HF.out, HE.out], by go_num⟩
        case measure => simp [RowKit.intOf]; omega
    · obtain rfl : k = l.length := by omega
      obtain rfl := HL.out rfl
      clear HF hb
      go_wp2
      go_ret
      exact ⟨rfl, rfl⟩

end Go.Proofs.YthpmhjlndnelfaaDoor.Real
