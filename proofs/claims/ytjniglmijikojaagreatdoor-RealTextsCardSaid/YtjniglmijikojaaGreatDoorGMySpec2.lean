/- special: its contract. The condition: the text is of at most 60 bytes. special at a number's own text: its contract. The condition: 64 bits. atof64exact: its contract. The conditions: the tables are laid. What readFloat makes of a text that is not in base 16 has at most 19 digits. No conditions. atof64 at any text: its contract: some float, no error or one of two. The conditions: the text is of at most 60 bytes; the tables are laid. ParseFloat and real.Parse over what atof64 tells: their contracts. The conditions: the text is of at most 60 bytes; the tables are laid. -/
import Derived.Test.YtjniglmijikojaaGreatDoorGOwnBack
import Derived.Test.YtjniglmijikojaaGreatDoorGMyPack
import Derived.Handy
import Derived.Test.YtjniglmijikojaaGreatDoorGOwnQuo
import Derived.Test.YtjniglmijikojaaGreatDoorGOwnFloat
import Derived.Test.YtjniglmijikojaaGreatDoorGMyHexF
import Derived.Test.YtjniglmijikojaaGreatDoorGMySetD
import Derived.Test.YtjniglmijikojaaGreatDoorGMyBits1
import Derived.Test.YtjniglmijikojaaGreatDoorGOwnDig
import Derived.Test.YtjniglmijikojaaGreatDoorGMyShelf
namespace Go.Proofs.YtjniglmijikojaaGreatDoor.Text
set_option linter.unusedSimpArgs false
open Go.RowKit Go.Lib Go.Proofs.YtjniglmijikojaaGreatDoor.Own Go.Proofs.YtjniglmijikojaaGreatDoorW.PrintWords

def infw : Nat := 9218868437227405312
def minfw : Nat := 18442240474082181120
def nanw : Nat := 9221120237041090561
/-- What is told. -/
def SpecRes (f : Nat) (n : Int) (ok : Bool) (w : World) (e : Ending) (w' : World) : Prop := e = .returned (.tuple #[.float .f64 f, .int .i64 n, .bool ok]) ∧ Below w.heap.size w w'
abbrev infB : ByteArray := ⟨#[105, 110, 102, 105, 110, 105, 116, 121]⟩
abbrev nanB : ByteArray := ⟨#[110, 97, 110]⟩

theorem inf_p (w : World) : Calls Tryz.prog 99 #[.int .i64 1] w fun e w' => e = .returned (.float .f64 infw) ∧ w = w' := by
  have h := fun W => f89 infw W
  have h' : ∀ W, (callFunc 89 #[.int .u64 9218868437227405312]).run Tryz.prog W = .ok (.value (.float .f64 infw)) W := h
  clear h
  go_enter Tryz.func99, Tryz.ntmps99
  go_wp2
  go_ret
  exact ⟨rfl, rfl⟩
theorem inf_m (w : World) : Calls Tryz.prog 99 #[.int .i64 (-1)] w fun e w' => e = .returned (.float .f64 minfw) ∧ w = w' := by
  have h := fun W => f89 minfw W
  have h' : ∀ W, (callFunc 89 #[.int .u64 18442240474082181120]).run Tryz.prog W = .ok (.value (.float .f64 minfw)) W := h
  clear h
  go_enter Tryz.func99, Tryz.ntmps99
  go_wp2
  go_ret
  exact ⟨rfl, rfl⟩
theorem nan_p (w : World) : Calls Tryz.prog 100 #[] w fun e w' => e = .returned (.float .f64 nanw) ∧ w = w' := by
  have h := fun W => f89 nanw W
  have h' : ∀ W, (callFunc 89 #[.int .u64 9221120237041090561]).run Tryz.prog W = .ok (.value (.float .f64 nanw)) W := h
  clear h
  go_enter Tryz.func100, Tryz.ntmps100
  go_wp2
  go_ret
  exact ⟨rfl, rfl⟩

theorem spec_0 (s : ByteArray) (hs : s.size = 0) (w : World) : Calls Tryz.prog 79 #[.string s] w (SpecRes 0 0 false w) := by
  have h0 : (s.size : Int) = 0 := by omega
  clear hs
  go_enter Tryz.func79, Tryz.ntmps79
  go_wp2
  go_returns
  exact ⟨rfl, Below.refl _ _⟩
theorem spec_no (s : ByteArray) (hs : 0 < s.size) (c : Int) (hc : bt s 0 = c) (h1 : c ≠ 43) (h2 : c ≠ 45) (h3 : c ≠ 105) (h4 : c ≠ 73) (h5 : c ≠ 110) (h6 : c ≠ 78) (w : World) : Calls Tryz.prog 79 #[.string s] w (SpecRes 0 0 false w) := by
  have hx := bt_nat s 0
  rw [show ((0 : Nat) : Int) = 0 from rfl, hc] at hx
  have z : ((s.size : Int) == 0) = false := beq_eq_false_iff_ne.2 (by omega)
  have z1 := eq_true hs
  have g1 : (c == 43) = false := beq_eq_false_iff_ne.2 h1
  have g2 : (c == 45) = false := beq_eq_false_iff_ne.2 h2
  have g3 : (c == 105) = false := beq_eq_false_iff_ne.2 h3
  have g4 : (c == 73) = false := beq_eq_false_iff_ne.2 h4
  have g5 : (c == 110) = false := beq_eq_false_iff_ne.2 h5
  have g6 : (c == 78) = false := beq_eq_false_iff_ne.2 h6
  clear hc
  go_enter Tryz.func79, Tryz.ntmps79
  go_wp2
  go_returns
  exact ⟨rfl, Below.refl _ _⟩

def tail1 (s : ByteArray) : ByteArray := s.extract 1 s.size
/-- How far it goes with 'infinity' tells whether it is that, and how long. -/
def okR (r : Nat) : Bool := decide (3 ≤ r)
def lenR (r : Nat) : Int := if r = 8 then 8 else 3

theorem spec_i105 (s : ByteArray) (hs0 : 0 < s.size) (hs : s.size ≤ 60) (hc : bt s 0 = 105) (w : World) :
    Calls Tryz.prog 79 #[.string s] w fun e w' => ∃ r : Nat, Pre s infB r ∧ SpecRes (if okR r then infw else 0) (if okR r then lenR r else 0) (okR r) w e w' := by
  have hx := bt_nat s 0
  rw [show ((0 : Nat) : Int) = 0 from rfl, hc] at hx
  have z : ((s.size : Int) == 0) = false := beq_eq_false_iff_ne.2 (by omega)
  have z1 := eq_true hs0
  have HI := fun W => inf_p W
  clear hc
  go_enter Tryz.func79, Tryz.ntmps79
  go_wp2_with fail
  go_at_call 98
  with_reducible refine (prefix_any s infB (by first | exact hTs | exact hs) (by decide) _).mono ?_
  rintro e w' ⟨⟨r, rfl, hP⟩, hB⟩
  have hr8 : r ≤ 8 := hP.2.1
  have HP := Aside0.mk hP
  have HB := Aside0.mk hB
  clear hP hB
  rcases (show r ≤ 2 ∨ r = 3 ∨ (4 ≤ r ∧ r ≤ 7) ∨ r = 8 by omega) with g | rfl | g | rfl
  · have q1 := eq_false (show ¬ (3 : Int) < (r : Int) by omega)
    have q2 : ((r : Int) == 3) = false := beq_eq_false_iff_ne.2 (by omega)
    have q3 : ((r : Int) == 8) = false := beq_eq_false_iff_ne.2 (by omega)
    have q4 : (r == 3) = false := beq_eq_false_iff_ne.2 (by omega)
    have q5 : (r == 8) = false := beq_eq_false_iff_ne.2 (by omega)
    have q6 : okR r = false := decide_eq_false (by omega)
    have q7 := eq_false (show ¬ 3 < r by omega)
    have Q6 := Aside0.mk q6
    clear q6 g hr8 hs
    go_wp2
    go_returns
    exact ⟨r, HP.out, by rw [Q6.out]; rfl, HB.out⟩
  · go_wp2_with (go_at_call 99; with_reducible refine (HI _).mono ?_; rintro e w2 ⟨rfl, rfl⟩)
    go_returns
    exact ⟨3, HP.out, rfl, HB.out⟩
  · have q1 := eq_true (show (3 : Int) < (r : Int) by omega)
    have q2 := eq_true (show (r : Int) < 8 by omega)
    have q3 := eq_true (show 3 < r by omega)
    have q4 := eq_true (show r < 8 by omega)
    have q6 : okR r = true := decide_eq_true (by omega)
    have q7 : lenR r = 3 := if_neg (by omega)
    have Q6 := Aside0.mk q6
    have Q7 := Aside0.mk q7
    clear q6 q7 g hr8 hs
    go_wp2_with (go_at_call 99; with_reducible refine (HI _).mono ?_; rintro e w2 ⟨rfl, rfl⟩)
    go_returns
    exact ⟨r, HP.out, by rw [Q6.out, Q7.out]; rfl, HB.out⟩
  · go_wp2_with (go_at_call 99; with_reducible refine (HI _).mono ?_; rintro e w2 ⟨rfl, rfl⟩)
    go_returns
    exact ⟨8, HP.out, rfl, HB.out⟩

theorem spec_i73 (s : ByteArray) (hs0 : 0 < s.size) (hs : s.size ≤ 60) (hc : bt s 0 = 73) (w : World) :
    Calls Tryz.prog 79 #[.string s] w fun e w' => ∃ r : Nat, Pre s infB r ∧ SpecRes (if okR r then infw else 0) (if okR r then lenR r else 0) (okR r) w e w' := by
  have hx := bt_nat s 0
  rw [show ((0 : Nat) : Int) = 0 from rfl, hc] at hx
  have z : ((s.size : Int) == 0) = false := beq_eq_false_iff_ne.2 (by omega)
  have z1 := eq_true hs0
  have HI := fun W => inf_p W
  clear hc
  go_enter Tryz.func79, Tryz.ntmps79
  go_wp2_with fail
  go_at_call 98
  with_reducible refine (prefix_any s infB (by first | exact hTs | exact hs) (by decide) _).mono ?_
  rintro e w' ⟨⟨r, rfl, hP⟩, hB⟩
  have hr8 : r ≤ 8 := hP.2.1
  have HP := Aside0.mk hP
  have HB := Aside0.mk hB
  clear hP hB
  rcases (show r ≤ 2 ∨ r = 3 ∨ (4 ≤ r ∧ r ≤ 7) ∨ r = 8 by omega) with g | rfl | g | rfl
  · have q1 := eq_false (show ¬ (3 : Int) < (r : Int) by omega)
    have q2 : ((r : Int) == 3) = false := beq_eq_false_iff_ne.2 (by omega)
    have q3 : ((r : Int) == 8) = false := beq_eq_false_iff_ne.2 (by omega)
    have q4 : (r == 3) = false := beq_eq_false_iff_ne.2 (by omega)
    have q5 : (r == 8) = false := beq_eq_false_iff_ne.2 (by omega)
    have q6 : okR r = false := decide_eq_false (by omega)
    have q7 := eq_false (show ¬ 3 < r by omega)
    have Q6 := Aside0.mk q6
    clear q6 g hr8 hs
    go_wp2
    go_returns
    exact ⟨r, HP.out, by rw [Q6.out]; rfl, HB.out⟩
  · go_wp2_with (go_at_call 99; with_reducible refine (HI _).mono ?_; rintro e w2 ⟨rfl, rfl⟩)
    go_returns
    exact ⟨3, HP.out, rfl, HB.out⟩
  · have q1 := eq_true (show (3 : Int) < (r : Int) by omega)
    have q2 := eq_true (show (r : Int) < 8 by omega)
    have q3 := eq_true (show 3 < r by omega)
    have q4 := eq_true (show r < 8 by omega)
    have q6 : okR r = true := decide_eq_true (by omega)
    have q7 : lenR r = 3 := if_neg (by omega)
    have Q6 := Aside0.mk q6
    have Q7 := Aside0.mk q7
    clear q6 q7 g hr8 hs
    go_wp2_with (go_at_call 99; with_reducible refine (HI _).mono ?_; rintro e w2 ⟨rfl, rfl⟩)
    go_returns
    exact ⟨r, HP.out, by rw [Q6.out, Q7.out]; rfl, HB.out⟩
  · go_wp2_with (go_at_call 99; with_reducible refine (HI _).mono ?_; rintro e w2 ⟨rfl, rfl⟩)
    go_returns
    exact ⟨8, HP.out, rfl, HB.out⟩

theorem spec_p43 (s : ByteArray) (hs0 : 0 < s.size) (hs : s.size ≤ 60) (hc : bt s 0 = 43) (w : World) :
    Calls Tryz.prog 79 #[.string s] w fun e w' => ∃ r : Nat, Pre (tail1 s) infB r ∧ SpecRes (if okR r then infw else 0) (if okR r then 1 + lenR r else 0) (okR r) w e w' := by
  have hx := bt_nat s 0
  rw [show ((0 : Nat) : Int) = 0 from rfl, hc] at hx
  have z : ((s.size : Int) == 0) = false := beq_eq_false_iff_ne.2 (by omega)
  have z1 := eq_true hs0
  have z2 : ((1 : Nat) ≤ s.size) = True := eq_true (by omega)
  have z3 : ((1 : Int) ≤ (s.size : Int)) = True := eq_true (by omega)
  have hT : s.extract 1 s.size = tail1 s := rfl
  have hTs : (tail1 s).size ≤ 60 := by unfold tail1; simp; omega
  have HI := fun W => inf_p W
  clear hc
  go_enter Tryz.func79, Tryz.ntmps79
  go_wp2_with fail
  go_at_call 98
  with_reducible refine (prefix_any (tail1 s) infB (by first | exact hTs | exact hs) (by decide) _).mono ?_
  rintro e w' ⟨⟨r, rfl, hP⟩, hB⟩
  have hr8 : r ≤ 8 := hP.2.1
  have HP := Aside0.mk hP
  have HB := Aside0.mk hB
  clear hP hB
  rcases (show r ≤ 2 ∨ r = 3 ∨ (4 ≤ r ∧ r ≤ 7) ∨ r = 8 by omega) with g | rfl | g | rfl
  · have q1 := eq_false (show ¬ (3 : Int) < (r : Int) by omega)
    have q2 : ((r : Int) == 3) = false := beq_eq_false_iff_ne.2 (by omega)
    have q3 : ((r : Int) == 8) = false := beq_eq_false_iff_ne.2 (by omega)
    have q4 : (r == 3) = false := beq_eq_false_iff_ne.2 (by omega)
    have q5 : (r == 8) = false := beq_eq_false_iff_ne.2 (by omega)
    have q6 : okR r = false := decide_eq_false (by omega)
    have q7 := eq_false (show ¬ 3 < r by omega)
    have Q6 := Aside0.mk q6
    clear q6 g hr8 hs
    go_wp2
    go_returns
    exact ⟨r, HP.out, by rw [Q6.out]; rfl, HB.out⟩
  · go_wp2_with (go_at_call 99; with_reducible refine (HI _).mono ?_; rintro e w2 ⟨rfl, rfl⟩)
    go_returns
    exact ⟨3, HP.out, rfl, HB.out⟩
  · have q1 := eq_true (show (3 : Int) < (r : Int) by omega)
    have q2 := eq_true (show (r : Int) < 8 by omega)
    have q3 := eq_true (show 3 < r by omega)
    have q4 := eq_true (show r < 8 by omega)
    have q6 : okR r = true := decide_eq_true (by omega)
    have q7 : lenR r = 3 := if_neg (by omega)
    have Q6 := Aside0.mk q6
    have Q7 := Aside0.mk q7
    clear q6 q7 g hr8 hs
    go_wp2_with (go_at_call 99; with_reducible refine (HI _).mono ?_; rintro e w2 ⟨rfl, rfl⟩)
    go_returns
    exact ⟨r, HP.out, by rw [Q6.out, Q7.out]; rfl, HB.out⟩
  · go_wp2_with (go_at_call 99; with_reducible refine (HI _).mono ?_; rintro e w2 ⟨rfl, rfl⟩)
    go_returns
    exact ⟨8, HP.out, rfl, HB.out⟩

theorem spec_m45 (s : ByteArray) (hs0 : 0 < s.size) (hs : s.size ≤ 60) (hc : bt s 0 = 45) (w : World) :
    Calls Tryz.prog 79 #[.string s] w fun e w' => ∃ r : Nat, Pre (tail1 s) infB r ∧ SpecRes (if okR r then minfw else 0) (if okR r then 1 + lenR r else 0) (okR r) w e w' := by
  have hx := bt_nat s 0
  rw [show ((0 : Nat) : Int) = 0 from rfl, hc] at hx
  have z : ((s.size : Int) == 0) = false := beq_eq_false_iff_ne.2 (by omega)
  have z1 := eq_true hs0
  have z2 : ((1 : Nat) ≤ s.size) = True := eq_true (by omega)
  have z3 : ((1 : Int) ≤ (s.size : Int)) = True := eq_true (by omega)
  have hT : s.extract 1 s.size = tail1 s := rfl
  have hTs : (tail1 s).size ≤ 60 := by unfold tail1; simp; omega
  have HI := fun W => inf_m W
  clear hc
  go_enter Tryz.func79, Tryz.ntmps79
  go_wp2_with fail
  go_at_call 98
  with_reducible refine (prefix_any (tail1 s) infB (by first | exact hTs | exact hs) (by decide) _).mono ?_
  rintro e w' ⟨⟨r, rfl, hP⟩, hB⟩
  have hr8 : r ≤ 8 := hP.2.1
  have HP := Aside0.mk hP
  have HB := Aside0.mk hB
  clear hP hB
  rcases (show r ≤ 2 ∨ r = 3 ∨ (4 ≤ r ∧ r ≤ 7) ∨ r = 8 by omega) with g | rfl | g | rfl
  · have q1 := eq_false (show ¬ (3 : Int) < (r : Int) by omega)
    have q2 : ((r : Int) == 3) = false := beq_eq_false_iff_ne.2 (by omega)
    have q3 : ((r : Int) == 8) = false := beq_eq_false_iff_ne.2 (by omega)
    have q4 : (r == 3) = false := beq_eq_false_iff_ne.2 (by omega)
    have q5 : (r == 8) = false := beq_eq_false_iff_ne.2 (by omega)
    have q6 : okR r = false := decide_eq_false (by omega)
    have q7 := eq_false (show ¬ 3 < r by omega)
    have Q6 := Aside0.mk q6
    clear q6 g hr8 hs
    go_wp2
    go_returns
    exact ⟨r, HP.out, by rw [Q6.out]; rfl, HB.out⟩
  · go_wp2_with (go_at_call 99; with_reducible refine (HI _).mono ?_; rintro e w2 ⟨rfl, rfl⟩)
    go_returns
    exact ⟨3, HP.out, rfl, HB.out⟩
  · have q1 := eq_true (show (3 : Int) < (r : Int) by omega)
    have q2 := eq_true (show (r : Int) < 8 by omega)
    have q3 := eq_true (show 3 < r by omega)
    have q4 := eq_true (show r < 8 by omega)
    have q6 : okR r = true := decide_eq_true (by omega)
    have q7 : lenR r = 3 := if_neg (by omega)
    have Q6 := Aside0.mk q6
    have Q7 := Aside0.mk q7
    clear q6 q7 g hr8 hs
    go_wp2_with (go_at_call 99; with_reducible refine (HI _).mono ?_; rintro e w2 ⟨rfl, rfl⟩)
    go_returns
    exact ⟨r, HP.out, by rw [Q6.out, Q7.out]; rfl, HB.out⟩
  · go_wp2_with (go_at_call 99; with_reducible refine (HI _).mono ?_; rintro e w2 ⟨rfl, rfl⟩)
    go_returns
    exact ⟨8, HP.out, rfl, HB.out⟩

theorem spec_n110 (s : ByteArray) (hs0 : 0 < s.size) (hs : s.size ≤ 60) (hc : bt s 0 = 110) (w : World) :
    Calls Tryz.prog 79 #[.string s] w fun e w' => ∃ r : Nat, Pre s nanB r ∧ SpecRes (if r = 3 then nanw else 0) (if r = 3 then 3 else 0) (decide (r = 3)) w e w' := by
  have hx := bt_nat s 0
  rw [show ((0 : Nat) : Int) = 0 from rfl, hc] at hx
  have z : ((s.size : Int) == 0) = false := beq_eq_false_iff_ne.2 (by omega)
  have z1 := eq_true hs0
  have HI := fun W => nan_p W
  clear hc
  go_enter Tryz.func79, Tryz.ntmps79
  go_wp2_with fail
  go_at_call 98
  with_reducible refine (prefix_any s nanB hs (by decide) _).mono ?_
  rintro e w' ⟨⟨r, rfl, hP⟩, hB⟩
  have HP := Aside0.mk hP
  have HB := Aside0.mk hB
  clear hP hB
  by_cases g : r = 3
  · subst g
    go_wp2_with (go_at_call 100; with_reducible refine (HI _).mono ?_; rintro e w2 ⟨rfl, rfl⟩)
    go_returns
    exact ⟨3, HP.out, rfl, HB.out⟩
  · have q2 : ((r : Int) == 3) = false := beq_eq_false_iff_ne.2 (by omega)
    have q4 : (r == 3) = false := beq_eq_false_iff_ne.2 g
    have G := Aside0.mk g
    clear g hs
    go_wp2
    go_returns
    exact ⟨r, HP.out, by rw [if_neg G.out, if_neg G.out, decide_eq_false G.out]; rfl, HB.out⟩

theorem spec_n78 (s : ByteArray) (hs0 : 0 < s.size) (hs : s.size ≤ 60) (hc : bt s 0 = 78) (w : World) :
    Calls Tryz.prog 79 #[.string s] w fun e w' => ∃ r : Nat, Pre s nanB r ∧ SpecRes (if r = 3 then nanw else 0) (if r = 3 then 3 else 0) (decide (r = 3)) w e w' := by
  have hx := bt_nat s 0
  rw [show ((0 : Nat) : Int) = 0 from rfl, hc] at hx
  have z : ((s.size : Int) == 0) = false := beq_eq_false_iff_ne.2 (by omega)
  have z1 := eq_true hs0
  have HI := fun W => nan_p W
  clear hc
  go_enter Tryz.func79, Tryz.ntmps79
  go_wp2_with fail
  go_at_call 98
  with_reducible refine (prefix_any s nanB hs (by decide) _).mono ?_
  rintro e w' ⟨⟨r, rfl, hP⟩, hB⟩
  have HP := Aside0.mk hP
  have HB := Aside0.mk hB
  clear hP hB
  by_cases g : r = 3
  · subst g
    go_wp2_with (go_at_call 100; with_reducible refine (HI _).mono ?_; rintro e w2 ⟨rfl, rfl⟩)
    go_returns
    exact ⟨3, HP.out, rfl, HB.out⟩
  · have q2 : ((r : Int) == 3) = false := beq_eq_false_iff_ne.2 (by omega)
    have q4 : (r == 3) = false := beq_eq_false_iff_ne.2 g
    have G := Aside0.mk g
    clear g hs
    go_wp2
    go_returns
    exact ⟨r, HP.out, by rw [if_neg G.out, if_neg G.out, decide_eq_false G.out]; rfl, HB.out⟩

theorem tail_size (s : ByteArray) : (tail1 s).size = s.size - 1 := by unfold tail1; simp
theorem tail_at (s : ByteArray) (j : Nat) : bt (tail1 s) (j : Int) = bt s ((j + 1 : Nat) : Int) := by
  rcases Nat.lt_or_ge (j + 1) s.size with h | h
  · have h' : j < (tail1 s).size := by rw [tail_size]; omega
    have h2 : j < (s.extract 1 s.size).size := h'
    have e : (s.extract 1 s.size)[j]'h2 = s[j + 1]'h := by simp [ByteArray.getElem_extract, Nat.add_comm]
    rw [← bt_nat (tail1 s) j h', ← bt_nat s (j + 1) h]
    exact congrArg (fun b : UInt8 => (b.toNat : Int)) e
  · unfold bt
    rw [dif_neg (by rw [tail_size]; omega), dif_neg (by omega)]
theorem pre_0 {s p : ByteArray} {r : Nat} (h : Pre s p r) (h2 : 0 < r → lo (bt s 0) ≠ bt p 0) : r = 0 := by
  rcases Nat.eq_zero_or_pos r with g | g
  · exact g
  · exact absurd (h.2.2.1 0 g) (h2 g)
theorem pre_all {s p : ByteArray} {r n : Nat} (h : Pre s p r) (hs : n = s.size) (hp : n ≤ p.size) (h2 : ∀ j : Nat, j < n → lo (bt s j) = bt p j) : r = n := by
  have := h.1
  rcases Nat.lt_or_ge r n with g | g
  · exact absurd (h2 r g) (h.2.2.2 (by omega) (by omega))
  · omega

/-- A digit, or a digit behind a sign. -/
theorem spec_dig (s : ByteArray) (hs : s.size ≤ 60) (h : (0 < s.size ∧ 48 ≤ bt s 0 ∧ bt s 0 ≤ 57) ∨ (1 < s.size ∧ bt s 0 = 45 ∧ 48 ≤ bt s 1 ∧ bt s 1 ≤ 57)) (w : World) : Calls Tryz.prog 79 #[.string s] w (SpecRes 0 0 false w) := by
  rcases h with ⟨h1, h2, h3⟩ | ⟨h1, h2, h3, h4⟩
  · exact spec_no s h1 _ rfl (by omega) (by omega) (by omega) (by omega) (by omega) (by omega) w
  · refine (spec_m45 s (by omega) hs h2 w).mono ?_
    rintro e w' ⟨r, hP, hR⟩
    have e1 := tail_at s 0
    have : r = 0 := pre_0 hP (fun _ => by
      have e0 : bt (tail1 s) 0 = bt s 1 := e1
      rw [e0]
      unfold lo
      rw [if_neg (by omega), show bt infB 0 = 105 by decide +kernel]
      omega)
    subst this
    exact hR
theorem spec_inf (w : World) : Calls Tryz.prog 79 #[.string ⟨#[105, 110, 102]⟩] w (SpecRes infw 3 true w) := by
  refine (spec_i105 _ (by decide) (by decide) (by decide +kernel) w).mono ?_
  rintro e w' ⟨r, hP, hR⟩
  obtain rfl : r = 3 := pre_all (n := 3) hP rfl (by decide) (by decide +kernel)
  exact hR
theorem spec_minf (w : World) : Calls Tryz.prog 79 #[.string ⟨#[45, 105, 110, 102]⟩] w (SpecRes minfw 4 true w) := by
  refine (spec_m45 _ (by decide) (by decide) (by decide +kernel) w).mono ?_
  rintro e w' ⟨r, hP, hR⟩
  obtain rfl : r = 3 := pre_all (n := 3) hP (by decide +kernel) (by decide) (by decide +kernel)
  exact hR
theorem spec_nan (w : World) : Calls Tryz.prog 79 #[.string ⟨#[110, 97, 110]⟩] w (SpecRes nanw 3 true w) := by
  refine (spec_n110 _ (by decide) (by decide) (by decide +kernel) w).mono ?_
  rintro e w' ⟨r, hP, hR⟩
  obtain rfl : r = 3 := pre_all (n := 3) hP rfl (by decide) (by decide +kernel)
  exact hR
theorem spec_any (s : ByteArray) (hs : s.size ≤ 60) (w : World) : Calls Tryz.prog 79 #[.string s] w fun e w' => ∃ f n ok, SpecRes f n ok w e w' ∧ f < 18446744073709551616 := by
  rcases Nat.eq_zero_or_pos s.size with h | h
  · exact (spec_0 s h w).mono fun e w' hR => ⟨_, _, _, hR, by decide⟩
  · have fin : ∀ f, f = infw ∨ f = minfw ∨ f = nanw → ∀ b : Bool, (if b then f else 0) < 18446744073709551616 := fun f hf b => by
      cases b
      · show 0 < 18446744073709551616
        decide
      · show f < 18446744073709551616
        rcases hf with rfl | rfl | rfl <;> decide
    by_cases h1 : bt s 0 = 43
    · exact (spec_p43 s h hs h1 w).mono fun e w' ⟨r, _, hR⟩ => ⟨_, _, _, hR, fin _ (by simp) _⟩
    by_cases h2 : bt s 0 = 45
    · exact (spec_m45 s h hs h2 w).mono fun e w' ⟨r, _, hR⟩ => ⟨_, _, _, hR, fin _ (by simp) _⟩
    by_cases h3 : bt s 0 = 105
    · exact (spec_i105 s h hs h3 w).mono fun e w' ⟨r, _, hR⟩ => ⟨_, _, _, hR, fin _ (by simp) _⟩
    by_cases h4 : bt s 0 = 73
    · exact (spec_i73 s h hs h4 w).mono fun e w' ⟨r, _, hR⟩ => ⟨_, _, _, hR, fin _ (by simp) _⟩
    by_cases h5 : bt s 0 = 110
    · refine (spec_n110 s h hs h5 w).mono fun e w' ⟨r, _, hR⟩ => ⟨_, _, _, hR, ?_⟩
      split <;> decide
    by_cases h6 : bt s 0 = 78
    · refine (spec_n78 s h hs h6 w).mono fun e w' ⟨r, _, hR⟩ => ⟨_, _, _, hR, ?_⟩
      split <;> decide
    exact (spec_no s h _ rfl h1 h2 h3 h4 h5 h6 w).mono fun e w' hR => ⟨_, _, _, hR, by decide⟩
end Go.Proofs.YtjniglmijikojaaGreatDoor.Text
namespace Go.Proofs.YtjniglmijikojaaGreatDoor.Text
open Go.Lib Go.RowKit Go.Proofs.YtjniglmijikojaaGreatDoor.Own Go.Proofs.YtjniglmijikojaaGreatDoor.Real Go.Proofs.YtjniglmijikojaaGreatDoorW.PrintWords

theorem bt_bytes (s : ByteArray) (k : Nat) (c : Int) (r : List Int) (h : (bytes s).drop k = c :: r) : k < s.size ∧ bt s (k : Int) = c := by
  have hk : k < s.size := by
    rcases Nat.lt_or_ge k s.size with g | g
    · exact g
    · rw [List.drop_eq_nil_iff.2 (by rw [bytes_len]; exact g)] at h
      cases h
  have e := (drops_of s).on k hk
  rw [h] at e
  injection e with e1 _
  exact ⟨hk, e1.symm⟩
/-- A finite number's text is nothing special. -/
theorem spec_text (x : Nat) (hx : x < 18446744073709551616) (hn : nan x = false) (hi : rg x ≠ 9218868437227405312) (w : World) : Calls Tryz.prog 79 #[.string (textB x)] w (SpecRes 0 0 false w) := by
  obtain ⟨c, t, e, h1, h2⟩ := num_head x
  have hb := bytes_text x hx
  rw [text_fin x hn hi, e] at hb
  have hl := textB_len x hx
  refine spec_dig (textB x) (by omega) ?_ w
  generalize sg x = b at hb
  cases b
  · obtain ⟨a1, a2⟩ := bt_bytes (textB x) 0 c t hb
    have a2' : bt (textB x) 0 = c := a2
    exact .inl ⟨a1, by omega, by omega⟩
  · have hb0 : (bytes (textB x)).drop 0 = 45 :: c :: t := hb
    have hb1 : (bytes (textB x)).drop 1 = c :: t := by rw [hb]; rfl
    obtain ⟨a1, a2⟩ := bt_bytes (textB x) 0 45 (c :: t) hb0
    obtain ⟨a3, a4⟩ := bt_bytes (textB x) 1 c t hb1
    have a2' : bt (textB x) 0 = 45 := a2
    have a4' : bt (textB x) 1 = c := a4
    exact .inr ⟨a3, a2', by omega, by omega⟩
/-- readFloat at a text of which is known what is read. -/
theorem read_known (s : ByteArray) (hs : s.size ≤ 60) (m : Nat) (E : Int) (neg : Bool) (l' : List Int) (h1 : reads (bytes s) = some (m, E, false, false, [])) (h2 : signed (bytes s) = (neg, l')) (h3 : isHex l' = false) (w : World) :
    Calls Tryz.prog 80 #[.string s] w fun e w' => e = .returned (.tuple #[.int .u64 (m : Int), .int .i64 E, .bool neg, .bool false, .bool false, .int .i64 (s.size : Int), .bool true]) ∧ w = w' := by
  refine (read_any s hs w).mono fun e w' hR => ?_
  obtain ⟨m2, E2, tr, i, ok, he, hw, _, _, _, _, hc⟩ := hR
  refine ⟨?_, hw⟩
  rcases hc with ⟨hok, us, rest, hr, hi⟩ | ⟨_, hn | ⟨m3, E3, tr3, rest3, hr⟩⟩
  · rw [h1] at hr
    injection hr with hr
    injection hr with q1 hr
    injection hr with q2 hr
    injection hr with q3 hr
    injection hr with q4 q5
    subst q1 q2 q3 q5 hok
    rw [List.length_nil, Nat.add_zero, bytes_len] at hi
    rw [he, h2]
    simp only [h3, hi]
  · rw [h1] at hn
    cases hn
  · rw [h1] at hr
    injection hr with hr
    injection hr with _ hr
    injection hr with _ hr
    injection hr with _ hr
    injection hr with q _
    cases q
/-- readFloat at the text of a finite number, not 0. -/
theorem read_own (x : Nat) (hx : x < 18446744073709551616) (hn : nan x = false) (hi : rg x ≠ 9218868437227405312) (h0 : rg x ≠ 0) :
    ∃ (m : Nat) (E : Int), 0 < m ∧ m < 10 ^ 17 ∧ InX (mOf x) (qOf x) m E ∧ -345 ≤ E ∧ E ≤ 310 ∧ ∀ w : World, Calls Tryz.prog 80 #[.string (textB x)] w fun e w' =>
      e = .returned (.tuple #[.int .u64 (m : Int), .int .i64 E, .bool (sg x), .bool false, .bool false, .int .i64 ((textB x).size : Int), .bool true]) ∧ w = w' := by
  obtain ⟨m, E, l', b1, b2, b3, b4, b5, b6, b7, b8⟩ := read_text x hx (fin_e x hn hi) h0
  have hb := bytes_text x hx
  rw [text_fin x hn hi] at hb
  refine ⟨m, E, b4, b5, b6, b7, b8, fun w => ?_⟩
  exact read_known (textB x) (by have := textB_len x hx; omega) m E (sg x) l' (by rw [hb]; exact b1) (by rw [hb]; exact b2) b3 w
/-- readFloat at the text of 0. -/
theorem read_zero (x : Nat) (hx : x < 18446744073709551616) (h0 : rg x = 0) (w : World) :
    Calls Tryz.prog 80 #[.string (textB x)] w fun e w' => e = .returned (.tuple #[.int .u64 0, .int .i64 0, .bool (sg x), .bool false, .bool false, .int .i64 ((textB x).size : Int), .bool true]) ∧ w = w' := by
  have hn : nan x = false := by unfold nan; rw [h0]; decide
  have hb := bytes_text x hx
  rw [text_fin x hn (by omega), num_zero x h0] at hb
  have hs : signed (sgl (sg x) ++ [48]) = (sg x, [48]) := signed_sgl (sg x) 48 [] (by omega) (by omega)
  exact read_known (textB x) (by have := textB_len x hx; omega) 0 0 (sg x) [48] (by rw [hb]; exact reads_zero _) (by rw [hb]; exact hs) rfl w
end Go.Proofs.YtjniglmijikojaaGreatDoor.Text
namespace Go.Proofs.YtjniglmijikojaaGreatDoor.Text
set_option linter.unusedSimpArgs false
open Go.RowKit Go.Lib Go.Proofs.YtjniglmijikojaaGreatDoor.Own Go.Proofs.YtjniglmijikojaaGreatDoor.Real Ieee

theorem conv_d (x : Nat) (W : World) : (convert 40 22 (.int .u64 (x : Int))).run Tryz.prog W = .ok (.float .f64 (nr x 0)) W := by
  have h := run_convert_int_float (P := Tryz.prog) W 40 22 .u64 .f64 (x : Int) (by rw [Tryz.underlying40]; rfl) Tryz.underlying22
  rw [h]
  have e : floatOfInt .f64 (x : Int) = Ieee.double.write (.number (decide ((x : Int) < 0)) (x : Int).natAbs 0) := rfl
  rw [e]
  simp only [Ieee.Format.write]
  rw [decide_eq_false (show ¬ (x : Int) < 0 by omega), nearest_nr, Int.natAbs_natCast, word_of, if_neg (by simp)]
theorem run_mul (a b c : Nat) (h : double.mul a b = some c) (W : World) : (binOp .mul 22 (.float .f64 a) (.float .f64 b)).run Tryz.prog W = .ok (.float .f64 c) W :=
  run_float_arith W .mul 22 .f64 a b c h
theorem run_div (a b c : Nat) (h : double.div a b = some c) (W : World) : (binOp .quo 22 (.float .f64 a) (.float .f64 b)).run Tryz.prog W = .ok (.float .f64 c) W :=
  run_float_arith W .quo 22 .f64 a b c h
theorem word_f (r : Nat) : double.word false r = r := by
  rw [word_of, if_neg (by simp)]
theorem ng_nr (r : Nat) (h : r ≤ 9218868437227405312) : ng r = double.word true r := by
  rw [word_of, if_pos rfl]
  unfold ng sg
  rw [decide_eq_false (by omega), if_neg (by simp)]
  omega
/-- Is it above a bound, or below its negative? -/
theorem gt15 (s : Bool) (r : Nat) (h : r ≤ 9218868437227405312) : (FloatKind.f64.format.order (double.word s r) 4831355200913801216 == some Ordering.gt) = (!s && decide (4831355200913801216 < r)) := by
  obtain ⟨s1, s2, s3⟩ := sg_word s r (by omega)
  have k1 : key (double.word s r) = if s then -(r : Int) else (r : Int) := by unfold key; rw [s1, s2]
  have k2 : key 4831355200913801216 = 4831355200913801216 := by decide +kernel
  have n1 : nan (double.word s r) = false := by unfold nan; rw [s2]; exact decide_eq_false (by omega)
  rw [f64, order_key _ _ s3 (by omega) n1 (by decide), k1, k2, cmp_int]
  cases s
  · simp only [Bool.false_eq_true, if_false, Bool.not_false, Bool.true_and]
    by_cases c : 4831355200913801216 < r
    · rw [if_neg (by omega), if_neg (by omega), decide_eq_true c]
      rfl
    · rw [decide_eq_false c]
      split
      · rfl
      · rw [if_pos (by omega)]
        rfl
  · simp only [if_true, Bool.not_true, Bool.false_and]
    rw [if_pos (by omega)]
    rfl
theorem lt15 (s : Bool) (r : Nat) (h : r ≤ 9218868437227405312) : (FloatKind.f64.format.order (double.word s r) 14054727237768577024 == some Ordering.lt) = (s && decide (4831355200913801216 < r)) := by
  obtain ⟨s1, s2, s3⟩ := sg_word s r (by omega)
  have k1 : key (double.word s r) = if s then -(r : Int) else (r : Int) := by unfold key; rw [s1, s2]
  have k2 : key 14054727237768577024 = -4831355200913801216 := by decide +kernel
  have n1 : nan (double.word s r) = false := by unfold nan; rw [s2]; exact decide_eq_false (by omega)
  rw [f64, order_key _ _ s3 (by omega) n1 (by decide), k1, k2, cmp_int]
  cases s
  · simp only [Bool.false_eq_true, if_false, Bool.false_and]
    rw [if_neg (by omega)]
    split <;> rfl
  · simp only [if_true, Bool.true_and]
    by_cases c : 4831355200913801216 < r
    · rw [if_pos (by omega), decide_eq_true c]
      rfl
    · rw [if_neg (by omega), decide_eq_false c]
      split <;> rfl

/-- What is told: if it is 'exact', it is the number. -/
def ExRes (m : Nat) (e : Int) (s : Bool) (w : World) (e' : Ending) (w' : World) : Prop :=
  ∃ f ok, e' = .returned (.tuple #[.float .f64 f, .bool ok]) ∧ w = w' ∧ (ok = true → ∃ r, f = double.word s r ∧ Ex m e r)

theorem ex_A (m : Nat) (e : Int) (s : Bool) (hm : 4503599627370496 ≤ m) (hm2 : m < 18446744073709551616) (w : World) (ht : Tabs w) : Calls Tryz.prog 90 #[.int .u64 (m : Int), .int .i64 e, .bool s] w (ExRes m e s w) := by
  have c6 := ht.i0
  obtain ⟨t, hsh⟩ : ∃ t, (m : Int) / 4503599627370496 = t := ⟨_, rfl⟩
  have hne : ((t != 0) : Bool) = true := bne_iff_ne.2 (by omega)
  clear ht hm
  cases s
  · -- false
    try simp only [word_f, Bool.not_false, Bool.not_true, Bool.true_and, Bool.false_and] at *
    go_enter Tryz.func90, Tryz.ntmps90
    go_wp2
    go_ret2
    exact ⟨_, _, rfl, rfl, fun h => by cases h⟩
  · -- true
    try simp only [word_f, Bool.not_false, Bool.not_true, Bool.true_and, Bool.false_and] at *
    go_enter Tryz.func90, Tryz.ntmps90
    go_wp2
    go_ret2
    exact ⟨_, _, rfl, rfl, fun h => by cases h⟩

theorem ex_B (m : Nat) (s : Bool) (hm0 : 0 < m) (hm : m < 4503599627370496) (w : World) (ht : Tabs w) : Calls Tryz.prog 90 #[.int .u64 (m : Int), .int .i64 0, .bool s] w (ExRes m 0 s w) := by
  have c6 := ht.i0
  have hsh : (m : Int) / 4503599627370496 = 0 := by omega
  have hcv := fun W => conv_d m W
  have hng : Op.unary .neg (.float .f64 (nr m 0)) = pure (.float .f64 (double.word true (nr m 0))) := by
    rw [un_neg (nr m 0) (by have := nr_le m 0; omega), ng_nr _ (nr_le m 0)]
  have hx := Aside0.mk (ex_0 m (by omega))
  generalize nr m 0 = R at *
  clear ht
  cases s
  · -- false
    try simp only [word_f, Bool.not_false, Bool.not_true, Bool.true_and, Bool.false_and] at *
    go_enter Tryz.func90, Tryz.ntmps90
    go_wp2
    go_ret2
    exact ⟨_, _, rfl, rfl, fun _ => ⟨_, (word_f _).symm, hx.out⟩⟩
  · -- true
    try simp only [word_f, Bool.not_false, Bool.not_true, Bool.true_and, Bool.false_and] at *
    go_enter Tryz.func90, Tryz.ntmps90
    go_wp2
    go_ret2
    exact ⟨_, _, rfl, rfl, fun _ => ⟨_, rfl, hx.out⟩⟩

theorem ex_C1 (m : Nat) (e : Int) (s : Bool) (hm0 : 0 < m) (hm : m ≤ 1000000000000000) (he1 : 0 < e) (he2 : e ≤ 22) (w : World) (ht : Tabs w) : Calls Tryz.prog 90 #[.int .u64 (m : Int), .int .i64 e, .bool s] w (ExRes m e s w) := by
  have c6 := ht.i0
  have hsh : (m : Int) / 4503599627370496 = 0 := by omega
  have hcv := fun W => conv_d m W
  have hng : Op.unary .neg (.float .f64 (nr m 0)) = pure (.float .f64 (double.word true (nr m 0))) := by
    rw [un_neg (nr m 0) (by have := nr_le m 0; omega), ng_nr _ (nr_le m 0)]
  obtain ⟨_, B, o, c, t0, t1, t2⟩ := ht.f10
  obtain ⟨j, rfl⟩ : ∃ j : Nat, e = (j : Int) := ⟨e.toNat, by omega⟩
  have tj : w.cell? ⟨B, o + j, none⟩ = some (.float .f64 (P10 j)) := t2 j (by omega)
  obtain ⟨r, x1, x2, x3⟩ := ex_mul s m j hm0 (by omega) (by omega)
  have hmul := fun W => run_mul _ _ _ x1 W
  have hX := Aside0.mk x2
  have g1 := gt15 s (nr m 0) (nr_le _ _)
  have g2 := lt15 s (nr m 0) (nr_le _ _)
  have hb : decide (4831355200913801216 < nr m 0) = false := decide_eq_false (fun h => by have := big15.1 h; omega)
  rw [hb, Bool.and_false] at g1 g2
  generalize nr m 0 = R at *
  generalize P10 j = T at *
  clear ht t2 x1 x2 hb
  cases s
  · -- false
    try simp only [word_f, Bool.not_false, Bool.not_true, Bool.true_and, Bool.false_and] at *
    go_enter Tryz.func90, Tryz.ntmps90
    go_wp2
    go_ret2
    exact ⟨_, _, rfl, rfl, fun _ => ⟨_, (word_f _).symm, hX.out⟩⟩
  · -- true
    try simp only [word_f, Bool.not_false, Bool.not_true, Bool.true_and, Bool.false_and] at *
    go_enter Tryz.func90, Tryz.ntmps90
    go_wp2
    go_ret2
    exact ⟨_, _, rfl, rfl, fun _ => ⟨_, rfl, hX.out⟩⟩

theorem ex_C2 (m : Nat) (e : Int) (s : Bool) (hm0 : 1000000000000000 < m) (hm : m < 4503599627370496) (he1 : 0 < e) (he2 : e ≤ 22) (w : World) (ht : Tabs w) : Calls Tryz.prog 90 #[.int .u64 (m : Int), .int .i64 e, .bool s] w (ExRes m e s w) := by
  have c6 := ht.i0
  have hsh : (m : Int) / 4503599627370496 = 0 := by omega
  have hcv := fun W => conv_d m W
  have hng : Op.unary .neg (.float .f64 (nr m 0)) = pure (.float .f64 (double.word true (nr m 0))) := by
    rw [un_neg (nr m 0) (by have := nr_le m 0; omega), ng_nr _ (nr_le m 0)]
  have g1 := gt15 s (nr m 0) (nr_le _ _)
  have g2 := lt15 s (nr m 0) (nr_le _ _)
  have hb : decide (4831355200913801216 < nr m 0) = true := decide_eq_true (big15.2 hm0)
  rw [hb, Bool.and_true] at g1 g2
  generalize nr m 0 = R at *
  clear ht hb
  cases s
  · -- false
    try simp only [word_f, Bool.not_false, Bool.not_true, Bool.true_and, Bool.false_and] at *
    go_enter Tryz.func90, Tryz.ntmps90
    go_wp2
    go_ret2
    exact ⟨_, _, rfl, rfl, fun h => by cases h⟩
  · -- true
    try simp only [word_f, Bool.not_false, Bool.not_true, Bool.true_and, Bool.false_and] at *
    go_enter Tryz.func90, Tryz.ntmps90
    go_wp2
    go_ret2
    exact ⟨_, _, rfl, rfl, fun h => by cases h⟩

theorem ex_D (m : Nat) (e : Int) (s : Bool) (hm0 : 0 < m) (hm : m < 4503599627370496) (he1 : 22 < e) (he2 : e ≤ 37) (w : World) (ht : Tabs w) : Calls Tryz.prog 90 #[.int .u64 (m : Int), .int .i64 e, .bool s] w (ExRes m e s w) := by
  have c6 := ht.i0
  have hsh : (m : Int) / 4503599627370496 = 0 := by omega
  have hcv := fun W => conv_d m W
  have hng : Op.unary .neg (.float .f64 (nr m 0)) = pure (.float .f64 (double.word true (nr m 0))) := by
    rw [un_neg (nr m 0) (by have := nr_le m 0; omega), ng_nr _ (nr_le m 0)]
  obtain ⟨_, B, o, c, t0, t1, t2⟩ := ht.f10
  obtain ⟨k, rfl⟩ : ∃ k : Nat, e = ((22 + k : Nat) : Int) := ⟨(e - 22).toNat, by omega⟩
  have tk : w.cell? ⟨B, o + k, none⟩ = some (.float .f64 (P10 k)) := t2 k (by omega)
  have t22 : w.cell? ⟨B, o + 22, none⟩ = some (.float .f64 (P10 22)) := t2 22 (by omega)
  have hk : ((22 + k : Nat) : Int) - 22 = (k : Int) := by omega
  obtain ⟨r, x1, x3, x2⟩ := ex_big s m k hm0 (by omega) (by omega)
  have hmul := fun W => run_mul _ _ _ x1 W
  have g1 := gt15 s r x3
  have g2 := lt15 s r x3
  obtain ⟨E, hE⟩ : ∃ E : Int, ((22 + k : Nat) : Int) = E := ⟨_, rfl⟩
  by_cases hb : 4831355200913801216 < r
  · rw [decide_eq_true hb, Bool.and_true] at g1 g2
    rw [hE] at hk he1 he2 ⊢
    generalize nr m 0 = R at *
    generalize P10 k = T at *
    clear hE t2 x1 x2 t22 ht
    cases s
    · try simp only [word_f, Bool.not_false, Bool.not_true, Bool.true_and, Bool.false_and] at *
      go_enter Tryz.func90, Tryz.ntmps90
      go_wp2
      go_ret2
      exact ⟨_, _, rfl, rfl, fun h => by cases h⟩
    · try simp only [word_f, Bool.not_false, Bool.not_true, Bool.true_and, Bool.false_and] at *
      go_enter Tryz.func90, Tryz.ntmps90
      go_wp2
      go_ret2
      exact ⟨_, _, rfl, rfl, fun h => by cases h⟩
  obtain ⟨y1, y2⟩ := x2 (by omega)
  rw [decide_eq_false hb, Bool.and_false] at g1 g2
  obtain ⟨r2, z1, z2, z3⟩ := ex_mul s (m * 10 ^ k) 22 (Nat.mul_pos hm0 (Nat.pow_pos (by omega))) (by omega) (by omega)
  rw [← y2] at z1
  have hmul2 := fun W => run_mul _ _ _ z1 W
  have hX := Aside0.mk (ex_shift z2)
  rw [hE] at hk he1 he2 hX ⊢
  generalize nr m 0 = R at *
  generalize P10 k = T at *
  generalize P10 22 = T22 at *
  clear ht hE t2 x1 x2 y1 y2 z1 z2 hb
  cases s
  · -- false
    try simp only [word_f, Bool.not_false, Bool.not_true, Bool.true_and, Bool.false_and] at *
    go_enter Tryz.func90, Tryz.ntmps90
    go_wp2
    go_ret2
    exact ⟨_, _, rfl, rfl, fun _ => ⟨_, (word_f _).symm, hX.out⟩⟩
  · -- true
    try simp only [word_f, Bool.not_false, Bool.not_true, Bool.true_and, Bool.false_and] at *
    go_enter Tryz.func90, Tryz.ntmps90
    go_wp2
    go_ret2
    exact ⟨_, _, rfl, rfl, fun _ => ⟨_, rfl, hX.out⟩⟩

theorem ex_E1 (m : Nat) (e : Int) (s : Bool) (hm : m < 4503599627370496) (he1 : 37 < e) (w : World) (ht : Tabs w) : Calls Tryz.prog 90 #[.int .u64 (m : Int), .int .i64 e, .bool s] w (ExRes m e s w) := by
  have c6 := ht.i0
  have hsh : (m : Int) / 4503599627370496 = 0 := by omega
  have hcv := fun W => conv_d m W
  have hng : Op.unary .neg (.float .f64 (nr m 0)) = pure (.float .f64 (double.word true (nr m 0))) := by
    rw [un_neg (nr m 0) (by have := nr_le m 0; omega), ng_nr _ (nr_le m 0)]
  generalize nr m 0 = R at *
  clear ht
  cases s
  · -- false
    try simp only [word_f, Bool.not_false, Bool.not_true, Bool.true_and, Bool.false_and] at *
    go_enter Tryz.func90, Tryz.ntmps90
    go_wp2
    go_ret2
    exact ⟨_, _, rfl, rfl, fun h => by cases h⟩
  · -- true
    try simp only [word_f, Bool.not_false, Bool.not_true, Bool.true_and, Bool.false_and] at *
    go_enter Tryz.func90, Tryz.ntmps90
    go_wp2
    go_ret2
    exact ⟨_, _, rfl, rfl, fun h => by cases h⟩

theorem ex_E2 (m : Nat) (e : Int) (s : Bool) (hm : m < 4503599627370496) (he1 : e < -22) (w : World) (ht : Tabs w) : Calls Tryz.prog 90 #[.int .u64 (m : Int), .int .i64 e, .bool s] w (ExRes m e s w) := by
  have c6 := ht.i0
  have hsh : (m : Int) / 4503599627370496 = 0 := by omega
  have hcv := fun W => conv_d m W
  have hng : Op.unary .neg (.float .f64 (nr m 0)) = pure (.float .f64 (double.word true (nr m 0))) := by
    rw [un_neg (nr m 0) (by have := nr_le m 0; omega), ng_nr _ (nr_le m 0)]
  generalize nr m 0 = R at *
  clear ht
  cases s
  · -- false
    try simp only [word_f, Bool.not_false, Bool.not_true, Bool.true_and, Bool.false_and] at *
    go_enter Tryz.func90, Tryz.ntmps90
    go_wp2
    go_ret2
    exact ⟨_, _, rfl, rfl, fun h => by cases h⟩
  · -- true
    try simp only [word_f, Bool.not_false, Bool.not_true, Bool.true_and, Bool.false_and] at *
    go_enter Tryz.func90, Tryz.ntmps90
    go_wp2
    go_ret2
    exact ⟨_, _, rfl, rfl, fun h => by cases h⟩

theorem ex_F (m : Nat) (e : Int) (s : Bool) (hm0 : 0 < m) (hm : m < 4503599627370496) (he1 : -22 ≤ e) (he2 : e < 0) (w : World) (ht : Tabs w) : Calls Tryz.prog 90 #[.int .u64 (m : Int), .int .i64 e, .bool s] w (ExRes m e s w) := by
  have c6 := ht.i0
  have hsh : (m : Int) / 4503599627370496 = 0 := by omega
  have hcv := fun W => conv_d m W
  have hng : Op.unary .neg (.float .f64 (nr m 0)) = pure (.float .f64 (double.word true (nr m 0))) := by
    rw [un_neg (nr m 0) (by have := nr_le m 0; omega), ng_nr _ (nr_le m 0)]
  obtain ⟨_, B, o, c, t0, t1, t2⟩ := ht.f10
  obtain ⟨j, rfl⟩ : ∃ j : Nat, e = -(j : Int) := ⟨(-e).toNat, by omega⟩
  have tj : w.cell? ⟨B, o + j, none⟩ = some (.float .f64 (P10 j)) := t2 j (by omega)
  have hj : - -(j : Int) = (j : Int) := Int.neg_neg _
  obtain ⟨r, x1, x2, x3⟩ := ex_div s m j hm0 (by omega) (by omega)
  have hdiv := fun W => run_div _ _ _ x1 W
  have hX := Aside0.mk x2
  generalize nr m 0 = R at *
  generalize P10 j = T at *
  clear ht t2 x1 x2
  cases s
  · -- false
    try simp only [word_f, Bool.not_false, Bool.not_true, Bool.true_and, Bool.false_and] at *
    go_enter Tryz.func90, Tryz.ntmps90
    go_wp2
    go_ret2
    exact ⟨_, _, rfl, rfl, fun _ => ⟨_, (word_f _).symm, hX.out⟩⟩
  · -- true
    try simp only [word_f, Bool.not_false, Bool.not_true, Bool.true_and, Bool.false_and] at *
    go_enter Tryz.func90, Tryz.ntmps90
    go_wp2
    go_ret2
    exact ⟨_, _, rfl, rfl, fun _ => ⟨_, rfl, hX.out⟩⟩

theorem exact_any (m : Nat) (e : Int) (s : Bool) (hm0 : 0 < m) (hm : m < 18446744073709551616) (w : World) (ht : Tabs w) : Calls Tryz.prog 90 #[.int .u64 (m : Int), .int .i64 e, .bool s] w (ExRes m e s w) := by
  rcases Nat.lt_or_ge m 4503599627370496 with h | h
  · rcases (show e < -22 ∨ (-22 ≤ e ∧ e < 0) ∨ e = 0 ∨ (0 < e ∧ e ≤ 22) ∨ (22 < e ∧ e ≤ 37) ∨ 37 < e by omega) with g | g | g | g | g | g
    · exact ex_E2 m e s h g w ht
    · exact ex_F m e s hm0 h g.1 g.2 w ht
    · subst g
      exact ex_B m s hm0 h w ht
    · rcases Nat.lt_or_ge 1000000000000000 m with h' | h'
      · exact ex_C2 m e s h' h g.1 g.2 w ht
      · exact ex_C1 m e s hm0 h' g.1 g.2 w ht
    · exact ex_D m e s hm0 h g.1 g.2 w ht
    · exact ex_E1 m e s h g w ht
  · exact ex_A m e s h hm w ht
end Go.Proofs.YtjniglmijikojaaGreatDoor.Text
namespace Go.Proofs.YtjniglmijikojaaGreatDoor.Text
open Go.Proofs.YtjniglmijikojaaGreatDoor.Own

theorem rsok_scan (hex : Bool) : ∀ (l : List Int) (k : Nat) (x : RS), RsOk hex k x → ∃ k', RsOk hex k' (scan hex l x).1
  | [], k, x, h => ⟨k, h⟩
  | c :: l, k, x, h => by
    unfold scan
    split
    · exact ⟨k, h⟩
    · rename_i y hy
      exact rsok_scan hex l (k + 1) y (rsok_step h hy)
theorem reads_lt {l rest : List Int} {m : Nat} {E : Int} {tr us : Bool} (h : reads l = some (m, E, tr, us, rest)) (hh : isHex (signed l).2 = false) : m < 10000000000000000000 := by
  unfold reads at h
  rw [hh] at h
  obtain ⟨k', hk⟩ := rsok_scan false (unhex (signed l).2) 0 rs0 (rsok0 false)
  generalize scan false (unhex (signed l).2) rs0 = p at h hk
  unfold behind at h
  split at h
  · obtain ⟨q, hq, e⟩ := Option.map_eq_some_iff.1 h
    injection e with e1 _
    rw [← e1]
    have h1 := hk.m
    have h2 := hk.nm
    have h3 : (10 : Nat) ^ p.1.nm ≤ 10 ^ 19 := Nat.pow_le_pow_right (by omega) h2
    have h4 : base false = 10 := rfl
    rw [h4] at h1
    omega
  · cases h
end Go.Proofs.YtjniglmijikojaaGreatDoor.Text
namespace Go.Proofs.YtjniglmijikojaaGreatDoor.Text
set_option linter.unusedSimpArgs false
set_option linter.unusedVariables false
open Go.RowKit Go.Lib Go.Proofs.YtjniglmijikojaaGreatDoor.Own Go.Proofs.YtjniglmijikojaaGreatDoor.Real Go.Proofs.YtjniglmijikojaaGreatDoorW.PrintWords Ieee

def ErrV (r : Value) : Prop := r = .nilIface ∨ r = .iface 58 (.int .i64 1) ∨ r = .iface 58 (.int .i64 2)
/-- What atof64 tells of any text. -/
def AnyRes (w : World) (e : Ending) (w' : World) : Prop := (∃ (f : Nat) (n : Int) (r : Value), e = .returned (.tuple #[.float .f64 f, .int .i64 n, r]) ∧ f < 18446744073709551616 ∧ ErrV r) ∧ Below w.heap.size w w'
theorem any_mk {w w' : World} {f : Nat} {n : Int} {r : Value} (hf : f < 18446744073709551616) (hr : ErrV r) (hb : Below w.heap.size w w') : AnyRes w (.returned (.tuple #[.float .f64 f, .int .i64 n, r])) w' := ⟨⟨f, n, r, rfl, hf, hr⟩, hb⟩
theorem word_lt (s : Bool) (r : Nat) (h : r ≤ 9218868437227405312) : double.word s r < 18446744073709551616 := by
  cases s
  · have : double.word false r = r := rfl
    omega
  · have : double.word true r = 9223372036854775808 + r := rfl
    omega
theorem err_of {r : Value} (h : r = .nilIface ∨ r = .iface 58 (.int .i64 1)) : ErrV r := h.elim .inl (fun h => .inr (.inl h))
theorem ex_lt {m : Nat} {e : Int} {r : Nat} (h : Ex m e r) : r ≤ 9218868437227405312 := by
  obtain ⟨Q, X, Y, rfl, _⟩ := h
  exact Nat.min_le_right _ _
theorem zc81 : Tryz.zeroCells81.toList = List.replicate 800 (Value.int .u8 0) ++ [.int .i64 0, .int .i64 0, .bool false, .bool false] := by kernel_rfl
theorem zc_at (i : Nat) : Tryz.zeroCells81[i]? = (List.replicate 800 (Value.int .u8 0) ++ [.int .i64 0, .int .i64 0, .bool false, .bool false])[i]? := by
  rw [← zc81]
  simp
set_option maxRecDepth 30000 in
theorem dec_new (w : World) : Dec (w.alloc (.cells Tryz.zeroCells81 81)) w.heap.size (fun _ => 0) 0 0 := by
  have c : ∀ i, (w.alloc (.cells Tryz.zeroCells81 81)).cell? ⟨w.heap.size, i, none⟩ = Tryz.zeroCells81[i]? := fun i => World.cell?_alloc_new w _ _ i
  refine ⟨fun i hi => ?_, ?_, ?_, ⟨false, ?_⟩, ⟨false, ?_⟩, fun i => World.frozen?_alloc_at _ _ _ _ rfl, by show _ < (w.heap.push _).size; rw [Array.size_push]; omega⟩
  · rw [c, zc_at, List.getElem?_append_left (by rw [List.length_replicate]; exact hi), List.getElem?_replicate, if_pos hi]
  · rw [c, zc_at]; rfl
  · rw [c, zc_at]; rfl
  · rw [c, zc_at]; rfl
  · rw [c, zc_at]; rfl
theorem below_new (w : World) : Below w.heap.size w (w.alloc (.cells Tryz.zeroCells81 81)) := (Below.refl _ _).alloc (Nat.le_refl _) _
theorem bits_any (w : World) (g : Nat) (f : Nat → Int) (nd : Nat) (dp : Int) (hd : Good w g f nd dp) (ht : TabG g w) :
    Calls Tryz.prog 87 #[.pointer (some ⟨g, 0, none⟩), .pointer (some ⟨6, 0, none⟩)] w (BitRes g w) := by
  rcases Nat.eq_zero_or_pos nd with h | h
  · subst h
    exact bits_0 w g f dp hd.dec ht
  · exact bits_1 w g f nd dp ⟨hd.dec, h, hd.le, hd.digs, hd.top h⟩ ht hd.lo hd.hi
theorem tabg_of {w w' : World} {g : Nat} (ht : Tabs w) (hg : w.heap.size ≤ g) (hb : Below w.heap.size w w') : TabG g w' := ⟨w, ht, hg, hb⟩
theorem or00 : Go.bits .or .u64 0 0 = 0 := by decide +kernel
theorem or0i : Go.bits .or .u64 0 9218868437227405312 = 9218868437227405312 := by decide +kernel
theorem or10 : Go.bits .or .u64 9223372036854775808 0 = 9223372036854775808 := by decide +kernel
theorem or1i : Go.bits .or .u64 9223372036854775808 9218868437227405312 = 18442240474082181120 := by decide +kernel

set_option maxRecDepth 30000 in
set_option maxHeartbeats 4000000 in
theorem atof_any (s : ByteArray) (hs : s.size ≤ 60) (w : World) (ht : Tabs w) (h2 : Two w) : Calls Tryz.prog 54 #[.string s] w (AnyRes w) := by
  have HS := Aside0.mk hs
  have HT := Aside0.mk ht
  have H2 := Aside0.mk h2
  have hf89 := f89
  have op := ht.op
  clear ht h2
  go_enter Tryz.func54, Tryz.ntmps54
  go_wp2_with fail
  refine (spec_any s HS.out _).mono ?_
  rintro e w1 ⟨f, n, ok, ⟨rfl, hb1⟩, hf⟩
  have HB1 := Aside0.mk hb1
  have HF := Aside0.mk hf
  have HT1 := Aside0.mk (HT.out.below hb1)
  have op1 := HT1.out.op
  clear hb1 hf op
  cases ok
  · go_wp2_with fail
    refine (read_any s HS.out _).mono ?_
    rintro e w2 ⟨m, E, tr, i, ok, rfl, rfl, hm, hE1, hE2, hi, hc⟩
    have HC := Aside0.mk hc
    have HI := Aside0.mk (show i ≤ s.size by rw [← bytes_len]; exact hi)
    generalize hng : (signed (bytes s)).1 = neg at *
    generalize hhx : isHex (signed (bytes s)).2 = hx at *
    have HHX := Aside0.mk hhx
    have HM := Aside0.mk hm
    have hi60 : i ≤ 60 := by have := HI.out; have := HS.out; omega
    have hiz : (i : Int) ≤ (s.size : Int) := by have := HI.out; omega
    clear hc hi hng hhx
    cases ok
    · go_wp2
      go_returns
      exact any_mk (by decide) (.inr (.inr rfl)) HB1.out
    · cases hx
      · go_upto_if 64 with fail
        go_cut [2, 3, 4] from 65 to 124 (fun a b c wx => a = .float .f64 0 ∧ b = .int .i64 (i : Int) ∧ c = .nilIface ∧ Below w.heap.size w wx)
        case first =>
          cases neg
          · skip
            have E4 := Aside0.mk b2u_f
            have r0 := or00
            have r1 := or0i
            by_cases h0 : m = 0
            · subst h0
              go_wp2_with (go_at_call 88; refine (E4.out _).mono ?_; rintro e w' ⟨rfl, rfl⟩)
              go_returns
              exact any_mk (by omega) (.inl rfl) HB1.out
            · have q0 : ((m : Int) == 0) = false := beq_eq_false_iff_ne.2 (by omega)
              have H0 := Aside0.mk (show 0 < m by omega)
              clear h0
              rcases (show 310 < E ∨ E < -345 ∨ (-345 ≤ E ∧ E ≤ 310) by omega) with h1 | h1 | ⟨h1, h2⟩
              · have q1 := eq_true h1
                clear h1
                go_wp2_with (go_at_call 88; refine (E4.out _).mono ?_; rintro e w' ⟨rfl, rfl⟩)
                go_returns
                exact any_mk (by omega) (.inr (.inl rfl)) HB1.out
              · have q1 := eq_false (show ¬ 310 < E by omega)
                have q2 := eq_true h1
                clear h1
                go_wp2_with (go_at_call 88; refine (E4.out _).mono ?_; rintro e w' ⟨rfl, rfl⟩)
                go_returns
                exact any_mk (by omega) (.inl rfl) HB1.out
              · have q1 := eq_false (show ¬ 310 < E by omega)
                have q2 := eq_false (show ¬ E < -345 by omega)
                have HP := Aside0.mk (fun w ht => parse_told m 0 E H0.out HM.out h1 h2 (by omega) w ht)
                cases tr
                · have HX := Aside0.mk (fun w ht => exact_any m E false H0.out HM.out w ht)
                  clear h1 h2
                  go_wp2_with (go_at_call 88; refine (E4.out _).mono ?_; rintro e w' ⟨rfl, rfl⟩)
                  refine (HX.out _ HT1.out).mono ?_
                  rintro e w3 ⟨f3, ok, rfl, rfl, hex⟩
                  cases ok
                  · clear hex
                    go_wp2_with fail
                    refine (HP.out _ HT1.out.ten).mono ?_
                    rintro e w4 ⟨⟨f4, r4, rfl, hf4, hr4⟩, hb4⟩
                    have HF4 := Aside0.mk hf4
                    have HR4 := Aside0.mk (err_of hr4)
                    have HB4 := Aside0.mk (HB1.out.trans (hb4.mono HB1.out.size))
                    clear hf4 hr4 hb4
                    go_wp2
                    go_returns
                    exact any_mk HF4.out HR4.out HB4.out
                  · obtain ⟨r, hf, hr⟩ := hex rfl
                    have HF3 := Aside0.mk (show f3 < 18446744073709551616 by rw [hf]; exact word_lt _ _ (ex_lt hr))
                    clear hex hr hf
                    go_wp2
                    go_returns
                    exact any_mk HF3.out (.inl rfl) HB1.out
                · have hm19 : m < 10000000000000000000 := by
                    rcases HC.out with ⟨_, us, rest, hr, _⟩ | ⟨hno, _⟩
                    · exact reads_lt hr HHX.out
                    · cases hno
                  have wm : IntKind.u64.wrap ((m : Int) + 1) = (m : Int) + 1 := wrap_u _ (by omega) (by omega)
                  have HP2 := Aside0.mk (show ∀ w, Tens w → Calls Tryz.prog 91 #[.int .u64 ((m : Int) + 1), .int .i64 E, .int .u64 0] w (ToldBelow w) from fun w ht => parse_told (m + 1) 0 E (by omega) (by omega) h1 h2 (by omega) w ht)
                  clear h1 h2 hm19
                  go_wp2_with (go_at_call 88; refine (E4.out _).mono ?_; rintro e w' ⟨rfl, rfl⟩)
                  refine (HP.out _ HT1.out.ten).mono ?_
                  rintro e w4 ⟨⟨f4, r4, rfl, hf4, hr4⟩, hb4⟩
                  have HF4 := Aside0.mk hf4
                  have HR4 := Aside0.mk (err_of hr4)
                  have HB4 := Aside0.mk (HB1.out.trans (hb4.mono HB1.out.size))
                  have HT4 := Aside0.mk (HT1.out.below hb4)
                  clear hf4 hr4 hb4
                  go_wp2_with fail
                  refine (HP2.out _ HT4.out.ten).mono ?_
                  rintro e w5 ⟨⟨f5, r5, rfl, hf5, hr5⟩, hb5⟩
                  have HB5 := Aside0.mk (HB4.out.trans (hb5.mono HB4.out.size))
                  clear hf5 hr5 hb5
                  go_wp2
                  · go_returns
                    exact any_mk HF4.out HR4.out HB5.out
                  · go_meet
                    case rel => exact ⟨rfl, rfl, rfl, HB5.out⟩
          · skip
            have E4 := Aside0.mk b2u_t
            have r0 := or10
            have r1 := or1i
            by_cases h0 : m = 0
            · subst h0
              go_wp2_with (go_at_call 88; refine (E4.out _).mono ?_; rintro e w' ⟨rfl, rfl⟩)
              go_returns
              exact any_mk (by omega) (.inl rfl) HB1.out
            · have q0 : ((m : Int) == 0) = false := beq_eq_false_iff_ne.2 (by omega)
              have H0 := Aside0.mk (show 0 < m by omega)
              clear h0
              rcases (show 310 < E ∨ E < -345 ∨ (-345 ≤ E ∧ E ≤ 310) by omega) with h1 | h1 | ⟨h1, h2⟩
              · have q1 := eq_true h1
                clear h1
                go_wp2_with (go_at_call 88; refine (E4.out _).mono ?_; rintro e w' ⟨rfl, rfl⟩)
                go_returns
                exact any_mk (by omega) (.inr (.inl rfl)) HB1.out
              · have q1 := eq_false (show ¬ 310 < E by omega)
                have q2 := eq_true h1
                clear h1
                go_wp2_with (go_at_call 88; refine (E4.out _).mono ?_; rintro e w' ⟨rfl, rfl⟩)
                go_returns
                exact any_mk (by omega) (.inl rfl) HB1.out
              · have q1 := eq_false (show ¬ 310 < E by omega)
                have q2 := eq_false (show ¬ E < -345 by omega)
                have HP := Aside0.mk (fun w ht => parse_told m 9223372036854775808 E H0.out HM.out h1 h2 (by omega) w ht)
                cases tr
                · have HX := Aside0.mk (fun w ht => exact_any m E true H0.out HM.out w ht)
                  clear h1 h2
                  go_wp2_with (go_at_call 88; refine (E4.out _).mono ?_; rintro e w' ⟨rfl, rfl⟩)
                  refine (HX.out _ HT1.out).mono ?_
                  rintro e w3 ⟨f3, ok, rfl, rfl, hex⟩
                  cases ok
                  · clear hex
                    go_wp2_with fail
                    refine (HP.out _ HT1.out.ten).mono ?_
                    rintro e w4 ⟨⟨f4, r4, rfl, hf4, hr4⟩, hb4⟩
                    have HF4 := Aside0.mk hf4
                    have HR4 := Aside0.mk (err_of hr4)
                    have HB4 := Aside0.mk (HB1.out.trans (hb4.mono HB1.out.size))
                    clear hf4 hr4 hb4
                    go_wp2
                    go_returns
                    exact any_mk HF4.out HR4.out HB4.out
                  · obtain ⟨r, hf, hr⟩ := hex rfl
                    have HF3 := Aside0.mk (show f3 < 18446744073709551616 by rw [hf]; exact word_lt _ _ (ex_lt hr))
                    clear hex hr hf
                    go_wp2
                    go_returns
                    exact any_mk HF3.out (.inl rfl) HB1.out
                · have hm19 : m < 10000000000000000000 := by
                    rcases HC.out with ⟨_, us, rest, hr, _⟩ | ⟨hno, _⟩
                    · exact reads_lt hr HHX.out
                    · cases hno
                  have wm : IntKind.u64.wrap ((m : Int) + 1) = (m : Int) + 1 := wrap_u _ (by omega) (by omega)
                  have HP2 := Aside0.mk (show ∀ w, Tens w → Calls Tryz.prog 91 #[.int .u64 ((m : Int) + 1), .int .i64 E, .int .u64 9223372036854775808] w (ToldBelow w) from fun w ht => parse_told (m + 1) 9223372036854775808 E (by omega) (by omega) h1 h2 (by omega) w ht)
                  clear h1 h2 hm19
                  go_wp2_with (go_at_call 88; refine (E4.out _).mono ?_; rintro e w' ⟨rfl, rfl⟩)
                  refine (HP.out _ HT1.out.ten).mono ?_
                  rintro e w4 ⟨⟨f4, r4, rfl, hf4, hr4⟩, hb4⟩
                  have HF4 := Aside0.mk hf4
                  have HR4 := Aside0.mk (err_of hr4)
                  have HB4 := Aside0.mk (HB1.out.trans (hb4.mono HB1.out.size))
                  have HT4 := Aside0.mk (HT1.out.below hb4)
                  clear hf4 hr4 hb4
                  go_wp2_with fail
                  refine (HP2.out _ HT4.out.ten).mono ?_
                  rintro e w5 ⟨⟨f5, r5, rfl, hf5, hr5⟩, hb5⟩
                  have HB5 := Aside0.mk (HB4.out.trans (hb5.mono HB4.out.size))
                  clear hf5 hr5 hb5
                  go_wp2
                  · go_returns
                    exact any_mk HF4.out HR4.out HB5.out
                  · go_meet
                    case rel => exact ⟨rfl, rfl, rfl, HB5.out⟩
        case rest =>
          obtain ⟨rfl, rfl, rfl, hb⟩ := hcut
          have HSZ := Aside0.mk hb.size
          have HBA := Aside0.mk (hb.alloc (o := .cells Tryz.zeroCells81 81) hb.size)
          have HD := Aside0.mk (dec_new wc)
          have HTG := Aside0.mk (tabg_of HT.out hb.size (hb.alloc (o := .cells Tryz.zeroCells81 81) hb.size))
          have hes : (s.extract 0 i).size ≤ 60 := by rw [ByteArray.size_extract]; omega
          have HES := Aside0.mk hes
          clear hb hes
          go_wp2_with fail
          refine (dset_any (s.extract 0 i) HES.out _ _ _ HD.out).mono ?_
          rintro e w6 ⟨ok, rfl, hg, hb6⟩
          have HB6 := Aside0.mk (HBA.out.trans (hb6.mono HSZ.out))
          have HTG6 := Aside0.mk (HTG.out.step hb6)
          have HG := Aside0.mk hg
          clear hb6 hg
          cases ok
          · go_wp2
            go_returns
            exact any_mk (by decide) (.inr (.inr rfl)) HB6.out
          · obtain ⟨f7, nd7, dp7, hgood⟩ := HG.out rfl
            have HGD := Aside0.mk hgood
            clear HG hgood
            go_wp2_with fail
            refine (bits_any w6 _ f7 nd7 dp7 HGD.out HTG6.out).mono ?_
            rintro e w8 ⟨⟨m8, ov, hm0, hm1, rfl⟩, hb8⟩
            have HB8 := Aside0.mk (HB6.out.trans (hb8.mono HSZ.out))
            have HM8 := Aside0.mk (show m8.toNat < 18446744073709551616 by omega)
            clear hb8
            cases ov
            · go_wp2
              go_returns
              exact any_mk HM8.out (.inl rfl) HB8.out
            · go_wp2
              go_returns
              exact any_mk HM8.out (.inr (.inl rfl)) HB8.out
      · have HX := Aside0.mk (fun w ht h2 => hex_any (s.extract 0 i) m E neg tr HM.out hE1 hE2 w ht h2)
        clear hE1 hE2
        go_wp2_with fail
        refine (HX.out _ HT1.out (H2.out.below HB1.out)).mono ?_
        rintro e w4 ⟨⟨f4, r4, rfl, hf4, hr4⟩, hb4⟩
        have HF4 := Aside0.mk hf4
        have HR4 := Aside0.mk (err_of hr4)
        have HB4 := Aside0.mk (HB1.out.trans (hb4.mono HB1.out.size))
        clear hf4 hr4 hb4
        go_wp2
        go_returns
        exact any_mk HF4.out HR4.out HB4.out
  · go_wp2
    go_returns
    exact any_mk HF.out (.inl rfl) HB1.out
end Go.Proofs.YtjniglmijikojaaGreatDoor.Text
namespace Go.Proofs.YtjniglmijikojaaGreatDoor.Text
set_option linter.unusedSimpArgs false
set_option linter.unusedVariables false
open Go.RowKit Go.Lib Go.Proofs.YtjniglmijikojaaGreatDoor.Own Go.Proofs.YtjniglmijikojaaGreatDoor.Real Go.Proofs.YtjniglmijikojaaGreatDoorW.PrintWords

def Ret3 (Q : Nat → Int → Value → Prop) (w : World) (e : Ending) (w' : World) : Prop := (∃ (f : Nat) (n : Int) (r : Value), e = .returned (.tuple #[.float .f64 f, .int .i64 n, r]) ∧ Q f n r) ∧ Below w.heap.size w w'
def Ret2 (Q : Nat → Value → Prop) (w : World) (e : Ending) (w' : World) : Prop := (∃ (f : Nat) (r : Value), e = .returned (.tuple #[.float .f64 f, r]) ∧ Q f r) ∧ Below w.heap.size w w'
theorem ret3 {Q : Nat → Int → Value → Prop} {w w' : World} {f : Nat} {n : Int} {r : Value} (hq : Q f n r) (hb : Below w.heap.size w w') : Ret3 Q w (.returned (.tuple #[.float .f64 f, .int .i64 n, r])) w' := ⟨⟨f, n, r, rfl, hq⟩, hb⟩
theorem ret2 {Q : Nat → Value → Prop} {w w' : World} {f : Nat} {r : Value} (hq : Q f r) (hb : Below w.heap.size w w') : Ret2 Q w (.returned (.tuple #[.float .f64 f, r])) w' := ⟨⟨f, r, rfl, hq⟩, hb⟩

set_option maxRecDepth 30000 in
theorem prefix_of (Q : Nat → Int → Value → Prop) (s : ByteArray) (w : World) (h : Calls Tryz.prog 54 #[.string s] w (Ret3 Q w)) : Calls Tryz.prog 33 #[.string s, .int .i64 64] w (Ret3 Q w) := by
  have H := Aside0.mk h
  clear h
  go_enter Tryz.func33, Tryz.ntmps33
  go_wp2_with fail
  refine (H.out).mono ?_
  rintro e w' ⟨⟨f, n, r, rfl, hq⟩, hb⟩
  have HQ := Aside0.mk hq
  have HB := Aside0.mk hb
  clear hq hb
  go_wp2
  go_returns
  exact ret3 HQ.out HB.out

/-- What ParseFloat tells, out of what atof64 does. -/
def Q2 (s : ByteArray) (Q : Nat → Int → Value → Prop) (f : Nat) (r : Value) : Prop :=
  Q f (s.size : Int) r ∨ (f = 0 ∧ r = .iface 58 (.int .i64 2) ∧ ∃ f n r, Q f n r ∧ n ≠ (s.size : Int))
set_option maxRecDepth 30000 in
theorem pf_of (Q : Nat → Int → Value → Prop) (s : ByteArray) (hs : s.size ≤ 60) (w : World) (h : Calls Tryz.prog 54 #[.string s] w (Ret3 Q w)) : Calls Tryz.prog 23 #[.string s, .int .i64 64] w (Ret2 (Q2 s Q) w) := by
  have H := Aside0.mk (prefix_of Q s w h)
  obtain ⟨z, hz⟩ : ∃ z : Int, (s.size : Int) = z := ⟨_, rfl⟩
  have HZ := Aside0.mk hz
  clear h
  go_enter Tryz.func23, Tryz.ntmps23
  go_wp2_with fail
  refine (H.out).mono ?_
  rintro e w' ⟨⟨f, n, r, rfl, hq⟩, hb⟩
  have HQ := Aside0.mk hq
  have HB := Aside0.mk hb
  clear hq hb
  by_cases hn : n = z
  · have p := Aside0.mk hn
    subst hn
    have q : (n != n) = false := bne_self_eq_false _
    go_wp2
    go_returns
    exact ret2 (.inl (HZ.out ▸ HQ.out)) HB.out
  · have q : (n != z) = true := bne_iff_ne.2 hn
    have HN := Aside0.mk hn
    clear hn
    go_wp2
    go_returns
    exact ret2 (.inr ⟨rfl, rfl, f, n, r, HQ.out, fun e => HN.out (e.trans HZ.out)⟩) HB.out

/-- What the public ParseFloat tells. -/
def Q3 (s : ByteArray) (Q : Nat → Int → Value → Prop) (f : Nat) (r : Value) : Prop :=
  (Q2 s Q f .nilIface ∧ r = .nilIface) ∨ ((∃ r0, Q2 s Q f r0 ∧ r0 ≠ .nilIface) ∧ ∃ p, r = .iface 59 (.pointer p))
def parseName : ByteArray := ⟨#[80, 97, 114, 115, 101, 70, 108, 111, 97, 116]⟩
set_option maxRecDepth 30000 in
theorem pub_of (Q : Nat → Int → Value → Prop) (hQ : ∀ f n r, Q f n r → ErrV r) (s : ByteArray) (hs : s.size ≤ 60) (w : World) (ht : Tabs w) (h : Calls Tryz.prog 54 #[.string s] w (Ret3 Q w)) : Calls Tryz.prog 13 #[.string s, .int .i64 64] w (Ret2 (Q3 s Q) w) := by
  have H := Aside0.mk (pf_of Q s hs w h)
  have HS := Aside0.mk hs
  have HT := Aside0.mk ht
  have HQ0 := Aside0.mk (show ∀ f r, Q2 s Q f r → ErrV r from fun f r h => by
    rcases h with h | ⟨_, rfl, _⟩
    · exact hQ _ _ _ h
    · exact .inr (.inr rfl))
  clear h ht hs
  go_enter Tryz.func13, Tryz.ntmps13
  go_wp2_with fail
  refine (H.out).mono ?_
  rintro e w1 ⟨⟨f, r, rfl, hq⟩, hb⟩
  have HQ := Aside0.mk hq
  have HB := Aside0.mk hb
  have HT1 := Aside0.mk (HT.out.below hb)
  have hE := HQ0.out f r hq
  clear hq hb
  rcases hE with rfl | rfl | rfl
  · go_wp2
    go_returns
    exact ret2 (.inl ⟨HQ.out, rfl⟩) HB.out
  · obtain ⟨ev, c3, hev⟩ := HT1.out.e3
    have HC := Aside0.mk (Tryz.strconv_toError_range parseName s 0 64 ev w1 (by have := HS.out; omega) c3 hev)
    clear c3 hev
    go_wp2_with fail
    refine (HC.out).mono ?_
    rintro e w2 ⟨N, rfl, _, _, hb2⟩
    have HB2 := Aside0.mk (HB.out.trans (hb2.mono HB.out.size))
    clear hb2
    go_wp2
    go_returns
    exact ret2 (.inr ⟨⟨_, HQ.out, fun e => by cases e⟩, _, rfl⟩) HB2.out
  · obtain ⟨ev, c2, hev⟩ := HT1.out.e2
    have HC := Aside0.mk (Tryz.strconv_toError_syntax parseName s 0 64 ev w1 (by have := HS.out; omega) c2 hev)
    clear c2 hev
    go_wp2_with fail
    refine (HC.out).mono ?_
    rintro e w2 ⟨N, rfl, _, _, hb2⟩
    have HB2 := Aside0.mk (HB.out.trans (hb2.mono HB.out.size))
    clear hb2
    go_wp2
    go_returns
    exact ret2 (.inr ⟨⟨_, HQ.out, fun e => by cases e⟩, _, rfl⟩) HB2.out

/-- What real.Parse tells. -/
def PRes (s : ByteArray) (Q : Nat → Int → Value → Prop) (w : World) (e : Ending) (w' : World) : Prop :=
  (∃ (y : Nat) (k : Int), e = .returned (.tuple #[.float .f64 y, .int .i64 k]) ∧ y < 18446744073709551616 ∧
    ((k = 0 ∧ textB y = s) ∨ (k = 4 ∧ y = 0 ∧ ∃ f n r, Q f n r ∧ ¬ (n = (s.size : Int) ∧ r = .nilIface ∧ textB f = s)))) ∧ Below w.heap.size w w'
theorem q2_lt {s : ByteArray} {Q : Nat → Int → Value → Prop} (hQ : ∀ f n r, Q f n r → f < 18446744073709551616) {f : Nat} {r : Value} (h : Q2 s Q f r) : f < 18446744073709551616 := by
  rcases h with h | ⟨rfl, _⟩
  · exact hQ _ _ _ h
  · decide
set_option maxRecDepth 30000 in
theorem parse_of (Q : Nat → Int → Value → Prop) (hQ : ∀ f n r, Q f n r → f < 18446744073709551616 ∧ ErrV r) (s : ByteArray) (hs : s.size ≤ 60) (w : World) (ht : Tabs w) (h : Calls Tryz.prog 54 #[.string s] w (Ret3 Q w)) : Calls Tryz.prog 6 #[.string s] w (PRes s Q w) := by
  have H := Aside0.mk (pub_of Q (fun f n r h => (hQ f n r h).2) s hs w ht h)
  have HT := Aside0.mk ht
  have HL := Aside0.mk (show ∀ f r, Q2 s Q f r → f < 18446744073709551616 from fun f r h => q2_lt (fun f n r h => (hQ f n r h).1) h)
  clear h ht hs
  go_enter Tryz.func6, Tryz.ntmps6
  go_wp2_with fail
  refine (H.out).mono ?_
  rintro e w1 ⟨⟨f, r, rfl, hq⟩, hb⟩
  have HB := Aside0.mk hb
  have HT1 := Aside0.mk (HT.out.below hb)
  clear hb
  rcases hq with ⟨hq, rfl⟩ | ⟨⟨r0, hq, hr0⟩, p, rfl⟩
  · have HQ := Aside0.mk hq
    have HC := Aside0.mk (text_any f (HL.out _ _ hq) w1 HT1.out)
    clear hq
    go_wp2_with fail
    refine (HC.out).mono ?_
    rintro e w2 ⟨rfl, hb2⟩
    have HB2 := Aside0.mk (HB.out.trans (hb2.mono HB.out.size))
    clear hb2
    obtain ⟨t, ht⟩ : ∃ t, textB f = t := ⟨_, rfl⟩
    rw [ht]
    have HTX := Aside0.mk ht
    clear ht
    by_cases hts : t = s
    · subst hts
      have q : (t.toList == t.toList) = true := beq_self_eq_true _
      go_wp2
      go_returns
      exact ⟨⟨f, 0, rfl, HL.out _ _ HQ.out, .inl ⟨rfl, HTX.out⟩⟩, HB2.out⟩
    · have q : (t.toList == s.toList) = false := beq_eq_false_iff_ne.2 (fun e => hts (by rw [ByteArray.toList_eq, ByteArray.toList_eq] at e; exact Go.WideShapes.bytes_inj e))
      have HTS := Aside0.mk hts
      clear hts
      go_wp2
      go_returns
      refine ⟨⟨0, 4, rfl, by decide, .inr ⟨rfl, rfl, ?_⟩⟩, HB2.out⟩
      rcases HQ.out with h | ⟨_, h, _⟩
      · exact ⟨f, _, _, h, fun h => HTS.out (HTX.out.symm.trans h.2.2)⟩
      · cases h
  · have HQ := Aside0.mk hq
    have HR := Aside0.mk hr0
    clear hq hr0
    go_wp2
    go_returns
    refine ⟨⟨0, 4, rfl, by decide, .inr ⟨rfl, rfl, ?_⟩⟩, HB.out⟩
    rcases HQ.out with h | ⟨_, _, f, n, r, h, hn⟩
    · exact ⟨f, _, _, h, fun h => HR.out h.2.1⟩
    · exact ⟨f, n, r, h, fun h => hn h.1⟩
/-- real.Parse at any text. -/
def QAny (f : Nat) (n : Int) (r : Value) : Prop := f < 18446744073709551616 ∧ ErrV r
theorem parse_any (s : ByteArray) (hs : s.size ≤ 60) (w : World) (ht : Tabs w) (h2 : Two w) : Calls Tryz.prog 6 #[.string s] w (PRes s QAny w) :=
  parse_of QAny (fun _ _ _ h => h) s hs w ht ((atof_any s hs w ht h2).mono fun e w' ⟨⟨f, n, r, he, hf, hr⟩, hb⟩ => ⟨⟨f, n, r, he, hf, hr⟩, hb⟩)
end Go.Proofs.YtjniglmijikojaaGreatDoor.Text
