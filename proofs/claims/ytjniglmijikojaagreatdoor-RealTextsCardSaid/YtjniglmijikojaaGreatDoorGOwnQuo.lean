/- Plain laws on floats of 64 bits: to round to the nearest keeps the order; quotients. No conditions but the width. Plain laws on floats of 64 bits: products and quotients by powers of ten are rounded to the nearest. No conditions but the size. Plain laws: what atof64exact computes is the rounded number. No conditions but the size. What the walks ask of the library's tables. No conditions. Contracts of functions that RealTexts reaches, cut from the print. No conditions but those that each names. A decimal in memory: what is read of it, what a store leaves; trim, shouldRoundUp: their contracts. The condition: the decimal lies at g, its digits are digits. -/
import Derived.Test.YtjniglmijikojaaGreatDoorGOwnFloat
import Derived.Test.YtjniglmijikojaaGreatDoorGOwnPw
import Derived.Test.YtjniglmijikojaaGreatDoorGMyShort
import Derived.Test.YtjniglmijikojaaGreatDoorGMyW0
import Derived.Deep.DeepCutAuto
import Derived.Deep.CutBlock
import Derived.Handy
namespace Go.Proofs.YtjniglmijikojaaGreatDoor.Real
open Ieee

/-- Twice the middle between a rung and the next one. -/
def md (r : Nat) : Nat := vl BB r + vl BB (r + 1)

/-- 'X / Y', in units of the least, is rounded to the rung Q. -/
structure Rnd (X Y Q : Nat) : Prop where
  dn : ∀ r, 2 * X < md r * Y → Q ≤ r
  up : ∀ r, md r * Y < 2 * X → r + 1 ≤ Q
  tie : ∀ r, 2 * X = md r * Y → Q = r + r % 2

theorem rnd_mono {X Y Q X' Y' Q' : Nat} (h : Rnd X Y Q) (h' : Rnd X' Y' Q') (hY : 0 < Y) (hY' : 0 < Y') (hx : X * Y' ≤ X' * Y) : Q ≤ Q' := by
  rcases Nat.lt_or_ge Q' Q with hlt | hge
  · exfalso
    have h1 : md Q' * Y ≤ 2 * X := by
      rcases Nat.lt_or_ge (2 * X) (md Q' * Y) with g | g
      · have := h.dn _ g; omega
      · exact g
    have h2 : 2 * X' ≤ md Q' * Y' := by
      rcases Nat.lt_or_ge (md Q' * Y') (2 * X') with g | g
      · have := h'.up _ g; omega
      · exact g
    have e1 : md Q' * Y * Y' ≤ 2 * X * Y' := Nat.mul_le_mul_right _ h1
    have e2 : 2 * X' * Y ≤ md Q' * Y' * Y := Nat.mul_le_mul_right _ h2
    have e3 : md Q' * Y' * Y = md Q' * Y * Y' := by rw [Nat.mul_assoc, Nat.mul_comm Y' Y, Nat.mul_assoc]
    have e4 : 2 * X * Y' = 2 * (X * Y') := Nat.mul_assoc _ _ _
    have e5 : 2 * X' * Y = 2 * (X' * Y) := Nat.mul_assoc _ _ _
    have t1 : 2 * X = md Q' * Y := Nat.eq_of_mul_eq_mul_right hY' (by omega)
    have t2 : 2 * X' = md Q' * Y' := Nat.eq_of_mul_eq_mul_right hY (by omega)
    have g1 := h.tie _ t1
    have g2 := h'.tie _ t2
    omega
  · exact hge

theorem vl_lt' {r s : Nat} (h : r < s) : vl BB r < vl BB s := (vl_lt BB r s BB_pos).2 h
theorem vl_le' {r s : Nat} (h : r ≤ s) : vl BB r ≤ vl BB s := (vl_le r s).2 h

theorem md_below {r R : Nat} (h : r < R) : md r < 2 * vl BB R := by
  have h1 := vl_lt' h
  have h2 := vl_le' (show r + 1 ≤ R from h)
  unfold md
  omega
theorem md_above {r R : Nat} (h : R ≤ r) : 2 * vl BB R < md r := by
  have h1 := vl_le' h
  have h2 := vl_lt' (show R < r + 1 by omega)
  unfold md
  omega

theorem rnd_exact (Q : Nat) : Rnd (vl BB Q) 1 Q := by
  constructor
  · intro r h
    rcases Nat.lt_or_ge r Q with g | g
    · have := md_below g; omega
    · exact g
  · intro r h
    rcases Nat.lt_or_ge r Q with g | g
    · exact g
    · have := md_above g; omega
  · intro r h
    exfalso
    rcases Nat.lt_or_ge r Q with g | g
    · have := md_below g; omega
    · have := md_above g; omega

theorem dbl (B k : Nat) (h : 0 < B) : B * (k * 2) = (2 * B - 1 + 1) * k := by
  rw [Nat.sub_add_cancel (by omega), Nat.mul_comm k 2, ← Nat.mul_assoc, Nat.mul_comm B 2]

theorem rnd_core (D low X Y kept : Nat) (h1 : BB ≤ low) (h2 : low < 2 * BB) (hY : 0 < Y) (f1 : low * 2 ^ D * Y ≤ X) (f2 : X < (low + 1) * 2 ^ D * Y)
    (k1 : 2 * X < (2 * low + 1) * 2 ^ D * Y → kept = low) (k2 : (2 * low + 1) * 2 ^ D * Y < 2 * X → kept = low + 1) (k3 : 2 * X = (2 * low + 1) * 2 ^ D * Y → kept = low + low % 2) :
    Rnd X Y (D * BB + kept) := by
  have e1 : vl BB (D * BB + low) = low * 2 ^ D := vl_form D low h1 h2
  have e2 : vl BB (D * BB + low + 1) = (low + 1) * 2 ^ D := by
    rcases Nat.lt_or_ge (low + 1) (2 * BB) with g | g
    · exact (congrArg (vl BB) (Nat.add_assoc _ _ _)).trans (vl_form D (low + 1) (Nat.le_succ_of_le h1) g)
    · obtain rfl : low = 2 * BB - 1 := by omega
      have hf := vl_form (D + 1) BB (Nat.le_refl _) (by decide)
      have hz : D * BB + (2 * BB - 1) + 1 = (D + 1) * BB + BB := by rw [Nat.add_mul, Nat.one_mul]; have := BB_pos; omega
      exact (congrArg (vl BB) hz).trans (hf.trans ((congrArg (fun k => BB * k) (Nat.pow_succ (n := 2) (m := D))).trans (dbl BB _ BB_pos)))
  have e3 : md (D * BB + low) = (2 * low + 1) * 2 ^ D := by
    unfold md
    rw [e1, e2, ← Nat.add_mul]
    congr 1
    omega
  have hk : kept = low ∨ kept = low + 1 := by
    rcases Nat.lt_trichotomy (2 * X) ((2 * low + 1) * 2 ^ D * Y) with g | g | g
    · exact .inl (k1 g)
    · have := k3 g; omega
    · exact .inr (k2 g)
  rw [← e1] at f1
  rw [← e2] at f2
  rw [← e3] at k1 k2 k3
  clear e1 e2 e3
  have lo : ∀ r, r < D * BB + low → md r * Y < 2 * X := by
    intro r g
    have a1 := Nat.mul_lt_mul_of_pos_right (md_below g) hY
    rw [Nat.mul_assoc] at a1
    omega
  have hi : ∀ r, D * BB + low + 1 ≤ r → 2 * X < md r * Y := by
    intro r g
    have a1 := Nat.mul_lt_mul_of_pos_right (md_above g) hY
    rw [Nat.mul_assoc] at a1
    omega
  constructor
  · intro r h
    rcases Nat.lt_trichotomy r (D * BB + low) with g | g | g
    · have := lo r g; omega
    · subst g; have := k1 h; omega
    · omega
  · intro r h
    rcases Nat.lt_trichotomy r (D * BB + low) with g | g | g
    · omega
    · subst g; have := k2 h; omega
    · have := hi r (by omega); omega
  · intro r h
    rcases Nat.lt_trichotomy r (D * BB + low) with g | g | g
    · have := lo r g; omega
    · subst g; have := k3 h; rw [BB_v] at *; omega
    · have := hi r (by omega); omega

theorem even_cut3 (n d : Nat) (hd : d ≤ n.log2 + 2) :
    (2 * (n % 2 ^ d) < 2 ^ d → Toward.even.cut false n d = n / 2 ^ d) ∧ (2 ^ d < 2 * (n % 2 ^ d) → Toward.even.cut false n d = n / 2 ^ d + 1) ∧ (2 ^ d = 2 * (n % 2 ^ d) → Toward.even.cut false n d = n / 2 ^ d + n / 2 ^ d % 2) := by
  unfold Toward.cut
  simp only [Nat.one_shiftLeft, Nat.min_eq_left hd]
  generalize n / 2 ^ d = low
  generalize n % 2 ^ d = rest
  generalize 2 ^ d = g
  refine ⟨fun h => ?_, fun h => ?_, fun h => ?_⟩
  · rw [decide_eq_false (by omega), beq_eq_false_iff_ne.2 (by omega)]; rfl
  · rw [decide_eq_true h]; rfl
  · rw [decide_eq_false (by omega), beq_iff_eq.2 h]
    rcases Nat.mod_two_eq_zero_or_one low with e | e <;> rw [e] <;> rfl

/-- A whole number of up to 64 bits. -/
theorem nat_rnd (x : Nat) (h0 : x ≠ 0) : ∃ Q, nr x 0 = min Q 9218868437227405312 ∧ Rnd (x * U) 1 Q := by
  by_cases h1 : x < 9007199254740992
  · obtain ⟨a, b⟩ := nr_small x h0 h1
    refine ⟨nr x 0, (Nat.min_eq_left (Nat.le_of_lt a)).symm, ?_⟩
    rw [← b]
    exact rnd_exact _
  have hl1 : 53 ≤ x.log2 := (Nat.le_log2 h0).2 (by omega)
  have hle : 2 ^ x.log2 ≤ x := (Nat.le_log2 h0).1 (Nat.le_refl _)
  have hgt : x < 2 ^ (x.log2 + 1) := (Nat.log2_lt h0).1 (Nat.lt_succ_self _)
  have hc := even_cut3 x (x.log2 - 52) (by omega)
  have hnr : nr x 0 = min ((x.log2 - 52 + 1074) * BB + Toward.even.cut false x (x.log2 - 52)) 9218868437227405312 := by
    unfold nr
    rw [if_neg h0, c_frac, c_least, c_bi, c_inf]
    have e1 : max ((0 : Int) + (x.log2 : Int) - ((52 : Nat) : Int)) (-1074) = (x.log2 : Int) - 52 := by omega
    simp only [e1]
    have e2 : ((0 : Int) - ((x.log2 : Int) - 52)).toNat = 0 := by omega
    have e3 : ((x.log2 : Int) - 52 - 0).toNat = x.log2 - 52 := by omega
    have e4 : ((x.log2 : Int) - 52 - -1074).toNat = x.log2 - 52 + 1074 := by omega
    rw [e2, e3, e4, Nat.shiftLeft_zero]
  refine ⟨_, hnr, ?_⟩
  clear hnr
  generalize x.log2 = l at *
  obtain ⟨d, rfl⟩ : ∃ d, l = d + 52 := ⟨l - 52, by omega⟩
  rw [Nat.add_sub_cancel] at *
  have hp := Nat.two_pow_pos d
  have hk : 2 ^ (d + 52) = BB * 2 ^ d := (Nat.pow_add 2 d 52).trans ((congrArg (fun k => 2 ^ d * k) BB_two).trans (Nat.mul_comm _ _))
  have f1 : BB ≤ x / 2 ^ d := (Nat.le_div_iff_mul_le hp).2 (by rw [← hk]; exact hle)
  have f2 : x / 2 ^ d < 2 * BB := by
    apply Nat.div_lt_of_lt_mul
    rw [Nat.pow_succ, hk, Nat.mul_comm BB] at hgt
    rw [Nat.mul_comm 2 BB, ← Nat.mul_assoc]
    exact hgt
  have hdm := Nat.div_add_mod x (2 ^ d)
  have hml := Nat.mod_lt x hp
  have hdm2 := hdm
  rw [Nat.mul_comm] at hdm2
  generalize hq : x / 2 ^ d = low at *
  generalize hr : x % 2 ^ d = rest at *
  generalize Toward.even.cut false x d = kept at *
  have hu : ∀ z : Nat, z * 2 ^ (d + 1074) * 1 = z * 2 ^ d * U := fun z => by rw [Nat.mul_one, U_over, Nat.mul_assoc]
  have ha : ∀ z : Nat, (z + 1) * 2 ^ d = z * 2 ^ d + 2 ^ d := fun z => by rw [Nat.add_mul, Nat.one_mul]
  have hb : (2 * low) * 2 ^ d = 2 * (low * 2 ^ d) := Nat.mul_assoc _ _ _
  have h2 : 2 * (x * U) = 2 * x * U := (Nat.mul_assoc _ _ _).symm
  refine rnd_core (d + 1074) low (x * U) 1 kept f1 f2 (by omega) ?_ ?_ ?_ ?_ ?_
  · rw [hu]; exact Nat.mul_le_mul_right _ (by omega)
  · rw [hu, ha]; exact Nat.mul_lt_mul_of_pos_right (by omega) U_pos
  · intro g
    rw [hu, h2, ha, hb] at g
    have := Nat.lt_of_mul_lt_mul_right g
    exact hc.1 (by omega)
  · intro g
    rw [hu, h2, ha, hb] at g
    have := Nat.lt_of_mul_lt_mul_right g
    exact hc.2.1 (by omega)
  · intro g
    rw [hu, h2, ha, hb] at g
    have := Nat.eq_of_mul_eq_mul_right U_pos g
    exact hc.2.2 (by omega)

theorem nr_mono (x y : Nat) (h : x ≤ y) : nr x 0 ≤ nr y 0 := by
  by_cases h0 : x = 0
  · subst h0
    unfold nr
    simp
  obtain ⟨Q, e1, r1⟩ := nat_rnd x h0
  obtain ⟨Q', e2, r2⟩ := nat_rnd y (by omega)
  have := rnd_mono r1 r2 (by omega) (by omega) (by rw [Nat.mul_one, Nat.mul_one]; exact Nat.mul_le_mul_right _ h)
  omega

theorem read_norm (b : Nat) (hb : b < 18446744073709551616) (h1 : BB ≤ rg b) (h : rg b < 9218868437227405312) :
    ∃ m p : Nat, double.read b = .number (sg b) m (-1074 + (p : Int)) ∧ m * 2 ^ p = vl BB (rg b) ∧ BB ≤ m ∧ m < 2 * BB ∧ p = rg b / 4503599627370496 - 1 := by
  rw [read_eq b hb, if_neg (by rw [BB_v] at h1; omega), if_pos h, c_least]
  refine ⟨_, _, rfl, ?_, ?_, ?_, rfl⟩
  · unfold vl
    rw [if_neg (by omega)]
  · rw [BB_v]; omega
  · have := Nat.mod_lt (rg b) BB_pos
    rw [BB_v] at *
    omega

theorem quo_kept (dv C h : Nat) (hC : 0 < C) (hh : h = 1 ∨ h = 2) (m : Nat) (hm : m = 2 * (dv / C) + (dv % C != 0).toNat) :
    m / (4 * h) * (2 * h) * C ≤ dv ∧ dv < (m / (4 * h) + 1) * (2 * h) * C ∧ (2 * dv < (2 * (m / (4 * h)) + 1) * (2 * h) * C → 2 * (m % (4 * h)) < 4 * h) ∧
      ((2 * (m / (4 * h)) + 1) * (2 * h) * C < 2 * dv → 4 * h < 2 * (m % (4 * h))) ∧ (2 * dv = (2 * (m / (4 * h)) + 1) * (2 * h) * C → 4 * h = 2 * (m % (4 * h))) := by
  have hb : (dv % C != 0).toNat = if dv % C = 0 then 0 else 1 := by
    by_cases e : dv % C = 0
    · rw [e]; rfl
    · rw [if_neg e, bne_iff_ne.2 e]; rfl
  rw [hb] at hm
  clear hb
  have l1 : ∀ z, z * C ≤ dv ↔ z ≤ dv / C := fun z => (Nat.le_div_iff_mul_le hC).symm
  have l2 : ∀ z, dv < z * C ↔ dv / C < z := fun z => (Nat.div_lt_iff_lt_mul hC).symm
  have l3 : ∀ z, dv = z * C → dv / C = z ∧ dv % C = 0 := fun z e => by rw [e]; exact ⟨Nat.mul_div_cancel _ hC, Nat.mul_mod_left _ _⟩
  have l4 : dv % C = 0 → dv = dv / C * C := fun e => by have := Nat.div_add_mod dv C; rw [e, Nat.add_zero, Nat.mul_comm] at this; exact this.symm
  have l5 : (2 * (m / (4 * h)) + 1) * (2 * h) * C = 2 * ((2 * (m / (4 * h)) + 1) * h * C) := by
    rw [Nat.mul_assoc, Nat.mul_assoc, Nat.mul_assoc, Nat.mul_left_comm]
  rw [l5, l1, l2]
  generalize dv / C = t at *
  refine ⟨?_, ?_, ?_, ?_, ?_⟩
  · rcases hh with rfl | rfl <;> split at hm <;> omega
  · rcases hh with rfl | rfl <;> split at hm <;> omega
  · intro g
    have := (l2 _).1 (show dv < (2 * (m / (4 * h)) + 1) * h * C by omega)
    rcases hh with rfl | rfl <;> split at hm <;> omega
  · intro g
    have g2 : (2 * (m / (4 * h)) + 1) * h * C < dv := by omega
    have := (l1 _).1 (Nat.le_of_lt g2)
    by_cases e : dv % C = 0
    · have e2 := l4 e
      rw [if_pos e] at hm
      have : (2 * (m / (4 * h)) + 1) * h ≠ t := by
        intro e3
        rw [e3] at g2
        omega
      rcases hh with rfl | rfl <;> omega
    · rw [if_neg e] at hm
      rcases hh with rfl | rfl <;> omega
  · intro g
    obtain ⟨e1, e2⟩ := l3 _ (show dv = (2 * (m / (4 * h)) + 1) * h * C by omega)
    rw [if_pos e2] at hm
    rcases hh with rfl | rfl <;> omega

theorem log_norm (m : Nat) (h1 : BB ≤ m) (h2 : m < 2 * BB) : m.log2 = 52 := by
  have h0 : m ≠ 0 := by have := BB_pos; omega
  have a := (Nat.le_log2 h0 (k := 52)).2 (by rw [BB_two]; exact h1)
  have b := (Nat.log2_lt h0 (k := 53)).2 (Nat.lt_of_lt_of_le h2 (by decide))
  omega

theorem e_fifty (p : Nat) : 54 + (p + 1020) = p + 1074 := by omega

theorem quo_rnd (s t : Bool) (A C p q : Nat) (a1 : BB ≤ A) (a2 : A < 2 * BB) (c1 : BB ≤ C) (c2 : C < 2 * BB) (hpq : q ≤ p + 900) :
    ∃ Q, (Datum.quotient (double.fractionBits + 2) (.number s A (-1074 + (p : Int))) (.number t C (-1074 + (q : Int)))).map double.write = some (double.word (s ^^ t) (min Q 9218868437227405312)) ∧ Rnd (A * 2 ^ p * U) (C * 2 ^ q) Q := by
  have hC : 0 < C := Nat.lt_of_lt_of_le BB_pos c1
  simp only [Datum.quotient]
  rw [if_neg (by omega), c_frac, log_norm A a1 a2, log_norm C c1 c2]
  rw [show 52 + 2 + 52 - 52 = 54 by omega, Nat.shiftLeft_eq]
  simp only [Option.map_some, Format.write]
  rw [nearest_nr]
  have e54 : (2 : Nat) ^ 54 = 18014398509481984 := by decide
  have t1 : 9007199254740992 ≤ A * 2 ^ 54 / C := (Nat.le_div_iff_mul_le hC).2 (by rw [e54]; rw [BB_v] at *; omega)
  have t2 : A * 2 ^ 54 / C < 36028797018963968 := (Nat.div_lt_iff_lt_mul hC).2 (by rw [e54]; rw [BB_v] at *; omega)
  obtain ⟨m, hm⟩ : ∃ m, m = 2 * (A * 2 ^ 54 / C) + (A * 2 ^ 54 % C != 0).toNat := ⟨_, rfl⟩
  rw [← hm]
  have hb : (A * 2 ^ 54 % C != 0).toNat ≤ 1 := by cases (A * 2 ^ 54 % C != 0) <;> decide
  have m1 : 18014398509481984 ≤ m := by omega
  have m2 : m < 72057594037927936 := by omega
  have m0 : m ≠ 0 := by omega
  obtain ⟨h, d, hh, hd, hl⟩ : ∃ h d : Nat, (h = 1 ∧ d = 1 ∨ h = 2 ∧ d = 2) ∧ 2 ^ (d + 1) = 4 * h ∧ m.log2 = d + 53 ∧ 1 ≤ d := by
    by_cases g : m < 36028797018963968
    · have a := (Nat.le_log2 m0 (k := 54)).2 (Nat.le_trans (by decide) m1)
      have b := (Nat.log2_lt m0 (k := 55)).2 (Nat.lt_of_lt_of_le g (by decide))
      exact ⟨1, 1, .inl ⟨rfl, rfl⟩, by decide, by omega, by omega⟩
    · have a := (Nat.le_log2 m0 (k := 55)).2 (Nat.le_trans (by decide) (Nat.le_of_not_lt g))
      have b := (Nat.log2_lt m0 (k := 56)).2 (Nat.lt_of_lt_of_le m2 (by decide))
      exact ⟨2, 2, .inr ⟨rfl, rfl⟩, by decide, by omega, by omega⟩
  obtain ⟨hl, hd1⟩ := hl
  obtain ⟨D, hD⟩ : ∃ D, D + q = p + 1020 + d := ⟨p + 1020 + d - q, by omega⟩
  have hc := even_cut3 m (d + 1) (by omega)
  have hnr : nr m (-1074 + (p : Int) - (-1074 + (q : Int)) - ((54 : Nat) : Int) - 1) = min (D * BB + Toward.even.cut false m (d + 1)) 9218868437227405312 := by
    unfold nr
    rw [if_neg m0, c_frac, c_least, c_bi, c_inf, hl]
    have e1 : max (-1074 + (p : Int) - (-1074 + (q : Int)) - ((54 : Nat) : Int) - 1 + ((d + 53 : Nat) : Int) - ((52 : Nat) : Int)) (-1074) = (D : Int) - 1074 := by omega
    simp only [e1]
    have e2 : (-1074 + (p : Int) - (-1074 + (q : Int)) - ((54 : Nat) : Int) - 1 - ((D : Int) - 1074)).toNat = 0 := by omega
    have e3 : ((D : Int) - 1074 - (-1074 + (p : Int) - (-1074 + (q : Int)) - ((54 : Nat) : Int) - 1)).toNat = d + 1 := by omega
    have e4 : ((D : Int) - 1074 - -1074).toNat = D := by omega
    rw [e2, e3, e4, Nat.shiftLeft_zero]
  refine ⟨_, by rw [hnr], ?_⟩
  clear hnr
  obtain ⟨g1, g2, g3, g4, g5⟩ := quo_kept (A * 2 ^ 54) C h hC (hh.imp And.left And.left) m hm
  rw [hd] at hc
  have hmb : m / (4 * h) < 2 * BB ∧ BB ≤ m / (4 * h) := by
    have hlo : 2 ^ (d + 53) ≤ m := (Nat.le_log2 m0).1 (by omega)
    have hhi : m < 2 ^ (d + 54) := (Nat.log2_lt m0).1 (by omega)
    rcases hh with ⟨rfl, rfl⟩ | ⟨rfl, rfl⟩
    · have x1 : (2 : Nat) ^ (1 + 53) = 18014398509481984 := by decide
      have x2 : (2 : Nat) ^ (1 + 54) = 36028797018963968 := by decide
      rw [x1] at hlo
      rw [x2] at hhi
      rw [BB_v]
      omega
    · have x1 : (2 : Nat) ^ (2 + 53) = 36028797018963968 := by decide
      have x2 : (2 : Nat) ^ (2 + 54) = 72057594037927936 := by decide
      rw [x1] at hlo
      rw [x2] at hhi
      rw [BB_v]
      omega
  have hX : A * 2 ^ p * U = A * 2 ^ 54 * 2 ^ (p + 1020) := by
    have e := e_fifty p
    calc A * 2 ^ p * U = A * (2 ^ p * U) := Nat.mul_assoc _ _ _
      _ = A * 2 ^ (p + 1074) := congrArg (fun k => A * k) (U_over p).symm
      _ = A * 2 ^ (54 + (p + 1020)) := congrArg (fun k => A * 2 ^ k) e.symm
      _ = A * (2 ^ 54 * 2 ^ (p + 1020)) := congrArg (fun k => A * k) (Nat.pow_add 2 54 (p + 1020))
      _ = A * 2 ^ 54 * 2 ^ (p + 1020) := (Nat.mul_assoc _ _ _).symm
  have hY : ∀ z : Nat, z * 2 ^ D * (C * 2 ^ q) = z * (2 * h) * C * 2 ^ (p + 1020) := by
    intro z
    have h2d : 2 ^ d = 2 * h := by rw [Nat.pow_succ] at hd; omega
    have e : 2 ^ D * 2 ^ q = 2 * h * 2 ^ (p + 1020) := by
      rw [← Nat.pow_add, hD, Nat.pow_add, h2d, Nat.mul_comm]
    calc z * 2 ^ D * (C * 2 ^ q) = z * C * (2 ^ D * 2 ^ q) := by
          rw [Nat.mul_assoc, Nat.mul_assoc, Nat.mul_left_comm (2 ^ D)]
      _ = z * C * (2 * h * 2 ^ (p + 1020)) := by rw [e]
      _ = z * (2 * h) * C * 2 ^ (p + 1020) := by rw [← Nat.mul_assoc, Nat.mul_assoc z C, Nat.mul_comm C, ← Nat.mul_assoc]
  have hp := Nat.two_pow_pos (p + 1020)
  have h2 : 2 * (A * 2 ^ p * U) = 2 * (A * 2 ^ 54) * 2 ^ (p + 1020) := by rw [hX, Nat.mul_assoc 2]
  refine rnd_core D (m / (4 * h)) (A * 2 ^ p * U) (C * 2 ^ q) _ hmb.2 hmb.1 (Nat.mul_pos hC (Nat.two_pow_pos q)) ?_ ?_ ?_ ?_ ?_
  · rw [hY, hX]; exact Nat.mul_le_mul_right _ g1
  · rw [hY, hX]; exact Nat.mul_lt_mul_of_pos_right g2 hp
  · intro g
    rw [hY, h2] at g
    exact hc.1 (g3 (Nat.lt_of_mul_lt_mul_right g))
  · intro g
    rw [hY, h2] at g
    exact hc.2.1 (g4 (Nat.lt_of_mul_lt_mul_right g))
  · intro g
    rw [hY, h2] at g
    exact hc.2.2 (g5 (Nat.eq_of_mul_eq_mul_right hp g))

theorem nr_one : nr 1 0 = 4607182418800017408 := by decide +kernel
theorem nr_top : nr 18446744073709551615 0 = 4895412794951729152 := by decide +kernel
theorem nr_ends (x : Nat) (h0 : x ≠ 0) (h : x < 18446744073709551616) : 4607182418800017408 ≤ nr x 0 ∧ nr x 0 ≤ 4895412794951729152 := by
  rw [← nr_one, ← nr_top]
  exact ⟨nr_mono _ _ (by omega), nr_mono _ _ (by omega)⟩

theorem nr_nought : nr 0 0 = 0 := by unfold nr; simp
theorem word_false (r : Nat) : double.word false r = r := rfl

theorem div_nr (x y : Nat) (hx : x ≠ 0) (hy : y ≠ 0) (hx2 : x < 18446744073709551616) (hy2 : y < 18446744073709551616) :
    ∃ Q, double.div (nr x 0) (nr y 0) = some (min Q 9218868437227405312) ∧ Rnd (vl BB (nr x 0) * U) (vl BB (nr y 0)) Q := by
  obtain ⟨x1, x2⟩ := nr_ends x hx hx2
  obtain ⟨y1, y2⟩ := nr_ends y hy hy2
  have hb : ∀ z, z ≤ 4895412794951729152 → rg z = z ∧ sg z = false := fun z hz => ⟨Nat.mod_eq_of_lt (by omega), decide_eq_false (by omega)⟩
  obtain ⟨rx, sx⟩ := hb _ x2
  obtain ⟨ry, sy⟩ := hb _ y2
  obtain ⟨A, p, e1, e2, e3, e4, e5⟩ := read_norm (nr x 0) (by omega) (by rw [rx, BB_v]; omega) (by rw [rx]; omega)
  obtain ⟨C, q, f1, f2, f3, f4, f5⟩ := read_norm (nr y 0) (by omega) (by rw [ry, BB_v]; omega) (by rw [ry]; omega)
  rw [rx] at e2 e5
  rw [ry] at f2 f5
  obtain ⟨Q, g1, g2⟩ := quo_rnd false false A C p q e3 e4 f3 f4 (by omega)
  refine ⟨Q, ?_, ?_⟩
  · unfold Format.div
    rw [e1, f1, sx, sy]
    exact g1
  · rw [← e2, ← f2]
    exact g2

def qt (x y : Nat) : Nat := (double.div (nr x 0) (nr y 0)).getD 0

theorem vl_one : vl BB 4607182418800017408 = U := by
  have := (nr_small 1 (by decide) (by decide)).2
  rw [nr_one, Nat.one_mul] at this
  exact this

theorem vl_pos (r : Nat) (h : r ≠ 0) : 0 < vl BB r := by
  have := vl_lt' (show 0 < r by omega)
  omega

theorem qt_none (y : Nat) (hy : y ≠ 0) (hy2 : y < 18446744073709551616) : double.div (nr 0 0) (nr y 0) = some 0 := by
  obtain ⟨y1, y2⟩ := nr_ends y hy hy2
  have ry : rg (nr y 0) = nr y 0 := Nat.mod_eq_of_lt (by omega)
  have sy : sg (nr y 0) = false := decide_eq_false (by omega)
  obtain ⟨C, q, f1, f2, f3, f4, f5⟩ := read_norm (nr y 0) (by omega) (by rw [ry, BB_v]; omega) (by rw [ry]; omega)
  have hC : C ≠ 0 := by have := BB_pos; omega
  unfold Format.div
  rw [nr_nought, f1, sy]
  have r0 : double.read 0 = .number false 0 (-1074) := by decide +kernel
  rw [r0]
  simp only [Datum.quotient]
  rw [if_neg hC, Nat.zero_shiftLeft, Nat.zero_div, Nat.zero_mod]
  simp only [Option.map_some, Format.write]
  rw [nearest_nr]
  rfl

theorem qt_spec (x y : Nat) (hy : y ≠ 0) (hxy : x ≤ y) (hy2 : y < 18446744073709551616) :
    double.div (nr x 0) (nr y 0) = some (qt x y) ∧ qt x y ≤ 4607182418800017408 := by
  by_cases hx : x = 0
  · subst hx
    unfold qt
    rw [qt_none y hy hy2]
    exact ⟨rfl, Nat.zero_le _⟩
  · obtain ⟨Q, h1, h2⟩ := div_nr x y hx hy (by omega) hy2
    obtain ⟨y1, y2⟩ := nr_ends y hy hy2
    unfold qt
    rw [h1]
    refine ⟨rfl, ?_⟩
    have hm := vl_le' (nr_mono x y hxy)
    have hp := vl_pos (nr y 0) (by omega)
    have : Q ≤ 4607182418800017408 := by
      refine h2.dn _ ?_
      have hv := vl_one
      have hu := md_above (Nat.le_refl 4607182418800017408)
      rw [hv] at hu
      refine Nat.lt_of_le_of_lt ?_ (Nat.mul_lt_mul_of_pos_right hu hp)
      rw [Nat.mul_assoc, Nat.mul_comm U]
      exact Nat.mul_le_mul_left _ (Nat.mul_le_mul_right _ hm)
    exact Nat.le_trans (Nat.min_le_left _ _) this

theorem qt_lt_one (x y : Nat) (hxy : x < y) (hy2 : y < 9007199254740992) : qt x y < 4607182418800017408 := by
  by_cases hx : x = 0
  · subst hx
    unfold qt
    rw [qt_none y (by omega) (by omega)]
    decide
  · obtain ⟨Q, h1, h2⟩ := div_nr x y hx (by omega) (by omega) (by omega)
    have vx := (nr_small x hx (by omega)).2
    have vy := (nr_small y (by omega) hy2).2
    unfold qt
    rw [h1]
    have : Q ≤ 4607182418800017407 := by
      refine h2.dn _ ?_
      rw [vx, vy]
      obtain ⟨d, hd⟩ : ∃ d : Nat, d = 1021 := ⟨_, rfl⟩
      have e1 : vl BB 4607182418800017407 = (2 * BB - 1) * 2 ^ d := by
        have hv := vl_form d (2 * BB - 1) (by decide) (by decide)
        have hi : d * BB + (2 * BB - 1) = 4607182418800017407 := by subst hd; decide
        rw [hi] at hv
        exact hv
      have e2 : md 4607182418800017407 = (2 * BB - 1) * 2 ^ d + U := by
        unfold md
        rw [e1]
        exact congrArg (fun k => (2 * BB - 1) * 2 ^ d + k) vl_one
      have e3 : U = (2 * BB) * 2 ^ d := by
        have hu := U_split 53 (by omega)
        have hs : 1074 - 53 = d := by omega
        rw [hs, show (2 : Nat) ^ 53 = 2 * BB by decide] at hu
        exact hu
      rw [e2, e3]
      generalize 2 ^ d = K at *
      have hU : 0 < U := U_pos
      rw [e3] at hU
      have hK : 0 < K := by
        rcases Nat.eq_zero_or_pos K with h | h
        · rw [h, Nat.mul_zero] at hU; omega
        · exact h
      have l : 2 * (x * (2 * BB * K) * (2 * BB * K)) = 2 * (2 * BB) * x * K * (2 * BB * K) := by
        generalize 2 * BB = z
        simp only [Nat.mul_assoc, Nat.mul_left_comm, Nat.mul_comm]
      have r : ((2 * BB - 1) * K + 2 * BB * K) * (y * (2 * BB * K)) = (4 * BB - 1) * y * K * (2 * BB * K) := by
        rw [← Nat.add_mul, ← Nat.mul_assoc, Nat.mul_right_comm _ K y]
        rfl
      rw [l, r]
      refine Nat.mul_lt_mul_of_pos_right (Nat.mul_lt_mul_of_pos_right ?_ hK) hU
      rw [BB_v]
      omega
    exact Nat.lt_of_le_of_lt (Nat.min_le_left _ _) (by omega)

theorem qt_mono (x y x' y' : Nat) (hy : y ≠ 0) (hy' : y' ≠ 0) (hx2 : x < 9007199254740992) (hy2 : y < 9007199254740992) (hx2' : x' < 9007199254740992) (hy2' : y' < 9007199254740992)
    (h : x * y' ≤ x' * y) : qt x y ≤ qt x' y' := by
  by_cases hx : x = 0
  · subst hx
    unfold qt
    rw [qt_none y hy (by omega)]
    exact Nat.zero_le _
  · have hx' : x' ≠ 0 := by
      intro e
      subst e
      have := Nat.mul_pos (Nat.pos_of_ne_zero hx) (Nat.pos_of_ne_zero hy')
      omega
    obtain ⟨Q, h1, h2⟩ := div_nr x y hx hy (by omega) (by omega)
    obtain ⟨Q', h1', h2'⟩ := div_nr x' y' hx' hy' (by omega) (by omega)
    unfold qt
    rw [h1, h1']
    rw [(nr_small x hx hx2).2, (nr_small y hy hy2).2] at h2
    rw [(nr_small x' hx' hx2').2, (nr_small y' hy' hy2').2] at h2'
    have hq := rnd_mono h2 h2' (Nat.mul_pos (Nat.pos_of_ne_zero hy) U_pos) (Nat.mul_pos (Nat.pos_of_ne_zero hy') U_pos) (by
      have := Nat.mul_le_mul_right (U * U * U) h
      calc x * U * U * (y' * U) = x * y' * (U * U * U) := by simp only [Nat.mul_left_comm, Nat.mul_comm]
        _ ≤ x' * y * (U * U * U) := this
        _ = x' * U * U * (y * U) := by simp only [Nat.mul_left_comm, Nat.mul_comm])
    show min Q _ ≤ min Q' _
    omega
end Go.Proofs.YtjniglmijikojaaGreatDoor.Real
namespace Go.Proofs.YtjniglmijikojaaGreatDoor.Real
open Ieee Go.Proofs.YtjniglmijikojaaGreatDoor.Own

theorem nr_rnd (m : Nat) (i : Int) (a b : Nat) (h0 : m ≠ 0) (hab : (b : Int) - a = i + 1074) (h1 : 53 ≤ m.log2) (h2 : -1022 ≤ i + m.log2) : ∃ Q, nr m i = min Q 9218868437227405312 ∧ Rnd (m * 2 ^ b) (2 ^ a) Q := by
  have hle : 2 ^ m.log2 ≤ m := (Nat.le_log2 h0).1 (Nat.le_refl _)
  have hgt : m < 2 ^ (m.log2 + 1) := (Nat.log2_lt h0).1 (Nat.lt_succ_self _)
  have hc := even_cut3 m (m.log2 - 52) (by omega)
  obtain ⟨D, hD⟩ : ∃ D : Nat, (D : Int) = i + m.log2 + 1022 := ⟨(i + m.log2 + 1022).toNat, by omega⟩
  have hnr : nr m i = min (D * BB + Toward.even.cut false m (m.log2 - 52)) 9218868437227405312 := by
    unfold nr
    rw [if_neg h0, c_frac, c_least, c_bi, c_inf]
    have e1 : max (i + (m.log2 : Int) - ((52 : Nat) : Int)) (-1074) = i + (m.log2 : Int) - 52 := by omega
    simp only [e1]
    have e2 : (i - (i + (m.log2 : Int) - 52)).toNat = 0 := by omega
    have e3 : (i + (m.log2 : Int) - 52 - i).toNat = m.log2 - 52 := by omega
    have e4 : (i + (m.log2 : Int) - 52 - -1074).toNat = D := by omega
    rw [e2, e3, e4, Nat.shiftLeft_zero]
  refine ⟨_, hnr, ?_⟩
  clear hnr
  generalize m.log2 = l at *
  obtain ⟨d, rfl⟩ : ∃ d, l = d + 52 := ⟨l - 52, by omega⟩
  rw [Nat.add_sub_cancel] at *
  have hp := Nat.two_pow_pos d
  have hk : 2 ^ (d + 52) = BB * 2 ^ d := (Nat.pow_add 2 d 52).trans ((congrArg (fun k => 2 ^ d * k) BB_two).trans (Nat.mul_comm _ _))
  have f1 : BB ≤ m / 2 ^ d := (Nat.le_div_iff_mul_le hp).2 (by rw [← hk]; exact hle)
  have f2 : m / 2 ^ d < 2 * BB := by
    apply Nat.div_lt_of_lt_mul
    rw [Nat.pow_succ, hk, Nat.mul_comm BB] at hgt
    rw [Nat.mul_comm 2 BB, ← Nat.mul_assoc]
    exact hgt
  have hdm := Nat.div_add_mod m (2 ^ d)
  have hml := Nat.mod_lt m hp
  have hdm2 := hdm
  rw [Nat.mul_comm] at hdm2
  generalize hq : m / 2 ^ d = low at *
  generalize hr : m % 2 ^ d = rest at *
  generalize Toward.even.cut false m d = kept at *
  have hu : ∀ z : Nat, z * 2 ^ D * 2 ^ a = z * 2 ^ d * 2 ^ b := fun z => by
    rw [Nat.mul_assoc, Nat.mul_assoc, ← Nat.pow_add, ← Nat.pow_add, show D + a = d + b by omega]
  have ha : ∀ z : Nat, (z + 1) * 2 ^ d = z * 2 ^ d + 2 ^ d := fun z => by rw [Nat.add_mul, Nat.one_mul]
  have hb : (2 * low) * 2 ^ d = 2 * (low * 2 ^ d) := Nat.mul_assoc _ _ _
  have hbp := Nat.two_pow_pos b
  have h2 : 2 * (m * 2 ^ b) = 2 * m * 2 ^ b := (Nat.mul_assoc _ _ _).symm
  refine rnd_core D low (m * 2 ^ b) (2 ^ a) kept f1 f2 (Nat.two_pow_pos a) ?_ ?_ ?_ ?_ ?_
  · rw [hu]; exact Nat.mul_le_mul_right _ (by omega)
  · rw [hu, ha]; exact Nat.mul_lt_mul_of_pos_right (by omega) hbp
  · intro g
    rw [hu, h2, ha, hb] at g
    have := Nat.lt_of_mul_lt_mul_right g
    exact hc.1 (by omega)
  · intro g
    rw [hu, h2, ha, hb] at g
    have := Nat.lt_of_mul_lt_mul_right g
    exact hc.2.1 (by omega)
  · intro g
    rw [hu, h2, ha, hb] at g
    have := Nat.eq_of_mul_eq_mul_right hbp g
    exact hc.2.2 (by omega)

theorem U_eq : U = 2 ^ ex := rfl
theorem rnd_scale {X Y Q : Nat} (k : Nat) (hk : 0 < k) (h : Rnd (X * k) (Y * k) Q) : Rnd X Y Q := by
  have e : ∀ r, md r * (Y * k) = md r * Y * k := fun r => (Nat.mul_assoc _ _ _).symm
  have e2 : 2 * (X * k) = 2 * X * k := (Nat.mul_assoc _ _ _).symm
  constructor
  · intro r g
    exact h.dn r (by rw [e, e2]; exact Nat.mul_lt_mul_of_pos_right g hk)
  · intro r g
    exact h.up r (by rw [e, e2]; exact Nat.mul_lt_mul_of_pos_right g hk)
  · intro r g
    exact h.tie r (by rw [e, e2, g])

/-- A product of two numbers of at least 1. -/
theorem mul_rnd (s t : Bool) (x y : Nat) (hx : x < 9218868437227405312) (hy : y < 9218868437227405312) (ux : U ≤ vl BB x) (uy : U ≤ vl BB y) :
    ∃ Q, double.mul (double.word s x) (double.word t y) = some (double.word (s ^^ t) (min Q 9218868437227405312)) ∧ Rnd (vl BB x * vl BB y) U Q := by
  have one : ∀ z, U ≤ vl BB z → 4607182418800017408 ≤ z := fun z h => by
    rw [← vl_one] at h
    exact (vl_le _ _).1 h
  have x1 := one x ux
  have y1 := one y uy
  obtain ⟨sx, rx, wx⟩ := sg_word s x (by omega)
  obtain ⟨sy, ry, wy⟩ := sg_word t y (by omega)
  obtain ⟨A, p, e1, e2, e3, e4, e5⟩ := read_norm (double.word s x) wx (by rw [rx, BB_v]; omega) (by rw [rx]; exact hx)
  obtain ⟨C, q, f1, f2, f3, f4, f5⟩ := read_norm (double.word t y) wy (by rw [ry, BB_v]; omega) (by rw [ry]; exact hy)
  rw [rx] at e2 e5
  rw [ry] at f2 f5
  have hA : 0 < A := Nat.lt_of_lt_of_le BB_pos e3
  have hC : 0 < C := Nat.lt_of_lt_of_le BB_pos f3
  have hm : BB * BB ≤ A * C := Nat.mul_le_mul e3 f3
  have hm0 : A * C ≠ 0 := Nat.ne_of_gt (Nat.mul_pos hA hC)
  have hl : 104 ≤ (A * C).log2 := (Nat.le_log2 hm0).2 (Nat.le_trans (by decide) hm)
  obtain ⟨Q, g1, g2⟩ := nr_rnd (A * C) (-1074 + (p : Int) + (-1074 + (q : Int))) ex (p + q) hm0 (by unfold ex; omega) (by omega) (by omega)
  refine ⟨Q, ?_, ?_⟩
  · unfold Format.mul
    rw [e1, f1, sx, sy]
    show some (double.nearest (s ^^ t) (A * C) _) = _
    rw [nearest_nr, g1]
  · rw [← U_eq] at g2
    rw [show A * C * 2 ^ (p + q) = vl BB x * vl BB y by rw [← e2, ← f2, Nat.pow_add]; ac_rfl] at g2
    exact g2

theorem div_rnd (s t : Bool) (x y : Nat) (hx : x < 9218868437227405312) (hy : y < 9218868437227405312) (ux : U ≤ vl BB x) (uy : U ≤ vl BB y) (hy2 : y ≤ 5000000000000000000) :
    ∃ Q, double.div (double.word s x) (double.word t y) = some (double.word (s ^^ t) (min Q 9218868437227405312)) ∧ Rnd (vl BB x * U) (vl BB y) Q := by
  have one : ∀ z, U ≤ vl BB z → 4607182418800017408 ≤ z := fun z h => by
    rw [← vl_one] at h
    exact (vl_le _ _).1 h
  have x1 := one x ux
  have y1 := one y uy
  obtain ⟨sx, rx, wx⟩ := sg_word s x (by omega)
  obtain ⟨sy, ry, wy⟩ := sg_word t y (by omega)
  obtain ⟨A, p, e1, e2, e3, e4, e5⟩ := read_norm (double.word s x) wx (by rw [rx, BB_v]; omega) (by rw [rx]; exact hx)
  obtain ⟨C, q, f1, f2, f3, f4, f5⟩ := read_norm (double.word t y) wy (by rw [ry, BB_v]; omega) (by rw [ry]; exact hy)
  rw [rx] at e2 e5
  rw [ry] at f2 f5
  obtain ⟨Q, g1, g2⟩ := quo_rnd s t A C p q e3 e4 f3 f4 (by omega)
  refine ⟨Q, ?_, ?_⟩
  · unfold Format.div
    rw [e1, f1, sx, sy]
    exact g1
  · rw [← e2, ← f2]
    exact g2

/-- The powers of ten that are floats. -/
def P10 (j : Nat) : Nat := nr (10 ^ j) 0
def okTen (j : Nat) : Bool := decide (P10 j < 5000000000000000000) && decide (vl BB (P10 j) = 10 ^ j * U)
theorem ten_all : (List.range 23).all okTen = true := by decide +kernel
theorem ten_at (j : Nat) (h : j ≤ 22) : P10 j < 5000000000000000000 ∧ vl BB (P10 j) = 10 ^ j * U := by
  have := List.all_eq_true.1 ten_all j (List.mem_range.2 (by omega))
  simpa [okTen] using this

/-- The place of a number among the floats. -/
def rk (M : Nat) (q : Int) : Nat := if M < BB then M else (q + 1074).toNat * BB + M
structure Fit (M : Nat) (q : Int) : Prop where
  pos : 0 < M
  top : M < 2 * BB
  low : -1074 ≤ q
  hi : q ≤ 971
  nrm : BB ≤ M ∨ q = -1074

theorem vl_sub (r : Nat) (h : r ≤ BB) : vl BB r = r := by
  rcases Nat.lt_or_ge r BB with g | g
  · unfold vl
    rw [if_pos g]
  · obtain rfl : r = BB := by omega
    have := vl_form 0 BB (Nat.le_refl _) (by decide)
    rw [Nat.zero_mul, Nat.zero_add, Nat.pow_zero, Nat.mul_one] at this
    exact this

theorem vl_rk {M : Nat} {q : Int} (h : Fit M q) : vl BB (rk M q) = M * 2 ^ (q + 1074).toNat ∧ vl BB (rk M q + 1) = (M + 1) * 2 ^ (q + 1074).toNat ∧
    2 * md (rk M q - 1) = (if M = BB ∧ -1074 < q then 4 * M - 1 else 4 * M - 2) * 2 ^ (q + 1074).toNat ∧ rk M q % 2 = M % 2 ∧ 0 < rk M q := by
  have hp := h.pos
  have ht := h.top
  have hB := BB_pos
  have hB2 : BB % 2 = 0 := by decide
  unfold rk
  by_cases c : M < BB
  · have hq : q = -1074 := by rcases h.nrm with g | g <;> omega
    subst hq
    rw [if_pos c, if_neg (by omega), vl_sub M (by omega), vl_sub (M + 1) (by omega)]
    unfold md
    rw [vl_sub (M - 1) (by omega), show M - 1 + 1 = M by omega, vl_sub M (by omega)]
    refine ⟨?_, ?_, ?_, rfl, hp⟩
    · show M = M * 2 ^ 0
      omega
    · show M + 1 = (M + 1) * 2 ^ 0
      omega
    · show 2 * (M - 1 + M) = (4 * M - 2) * 2 ^ 0
      omega
  · rw [if_neg c]
    have hlo := h.low
    obtain ⟨e, he⟩ : ∃ e, (q + 1074).toNat = e := ⟨_, rfl⟩
    rw [he]
    have v0 := vl_form e M (by omega) ht
    have v1 : vl BB (e * BB + M + 1) = (M + 1) * 2 ^ e := by
      rcases Nat.lt_or_ge (M + 1) (2 * BB) with g | g
      · rw [Nat.add_assoc]
        exact vl_form e (M + 1) (by omega) g
      · have hM : M + 1 = 2 * BB := by omega
        have := vl_form (e + 1) BB (Nat.le_refl _) (by omega)
        rw [show e * BB + M + 1 = (e + 1) * BB + BB by rw [Nat.add_mul, Nat.one_mul]; omega, this, hM, Nat.pow_succ, Nat.mul_comm (2 ^ e), ← Nat.mul_assoc, Nat.mul_comm BB]
    refine ⟨v0, v1, ?_, ?_, by omega⟩
    · unfold md
      rw [show e * BB + M - 1 + 1 = e * BB + M by omega, v0]
      by_cases hM : M = BB
      · rcases Nat.eq_zero_or_pos e with h0 | h0
        · have hq : q = -1074 := by omega
          rw [if_neg (by omega), h0, Nat.zero_mul, Nat.zero_add, vl_sub (M - 1) (by omega), Nat.pow_zero]
          omega
        · rw [if_pos ⟨hM, by omega⟩]
          obtain ⟨e', rfl⟩ : ∃ e', e = e' + 1 := ⟨e - 1, by omega⟩
          have := vl_form e' (2 * BB - 1) (by omega) (by omega)
          rw [show (e' + 1) * BB + M - 1 = e' * BB + (2 * BB - 1) by rw [Nat.add_mul, Nat.one_mul]; omega, this, hM, Nat.pow_succ, Nat.mul_comm (2 ^ e') 2, ← Nat.mul_assoc, ← Nat.add_mul, ← Nat.mul_assoc, ← Nat.mul_assoc]
          congr 1
      · rw [if_neg (fun h => hM h.1), show e * BB + M - 1 = e * BB + (M - 1) by omega, vl_form e (M - 1) (by omega) (by omega), ← Nat.add_mul, ← Nat.mul_assoc]
        congr 1
        omega
    · rw [Nat.add_mod, Nat.mul_mod, hB2, Nat.mul_zero, Nat.zero_mod, Nat.zero_add, Nat.mod_mod]

/-- What is rounded to the nearest out of a number's interval is the number. -/
theorem rnd_in {M : Nat} {q : Int} {d : Nat} {p : Int} {X Y Q : Nat} (hf : Fit M q) (hp : inr p) (hY : 0 < Y) (hx : InX M q d p) (hXY : X * pw (-1074) 0 = Y * (d * pw 0 p)) (hr : Rnd X Y Q) : Q = rk M q := by
  obtain ⟨_, v1, v2, v3, v4⟩ := vl_rk hf
  obtain ⟨v0, _⟩ := vl_rk hf
  have hlo := hf.low
  have hhi := hf.hi
  obtain ⟨e, he⟩ : ∃ e, (q + 1074).toNat = e := ⟨_, rfl⟩
  rw [he] at v0 v1 v2
  have hP := pw_pos (-1074) 0
  have i0 : inr 0 := by unfold inr; omega
  have iq : inr (-1074) := by unfold inr; omega
  have eq : pw q 0 = 2 ^ e * pw (-1074) 0 := by
    have := pw_two (a := -1074) (P := 0) e iq i0
    rw [show (-1074 : Int) + (e : Int) = q by omega] at this
    exact this
  have ed : d * pw 2 p = 4 * (d * pw 0 p) := by rw [← four_eq d p hp, Nat.mul_assoc]
  obtain ⟨x1, x2, x3⟩ := hx
  generalize pw (-1074) 0 = P at *
  generalize pw q 0 = G at *
  generalize pw 0 p = T at *
  generalize pw 2 p = T2 at *
  have k0 : ∀ K, K * G * Y = K * 2 ^ e * Y * P := fun K => by rw [eq]; ac_rfl
  have k0' : d * T2 * Y = 4 * X * P := by rw [ed, Nat.mul_assoc 4 X, hXY]; ac_rfl
  have k1 : ∀ K, K * G ≤ d * T2 ↔ K * 2 ^ e * Y ≤ 4 * X := fun K => by
    rw [← Nat.mul_le_mul_right_iff hY, k0, k0', Nat.mul_le_mul_right_iff hP]
  have k2 : ∀ K, d * T2 ≤ K * G ↔ 4 * X ≤ K * 2 ^ e * Y := fun K => by
    rw [← Nat.mul_le_mul_right_iff hY, k0, k0', Nat.mul_le_mul_right_iff hP]
  have m1 : 2 * md (rk M q) = (4 * M + 2) * 2 ^ e := by
    unfold md
    rw [v0, v1, ← Nat.add_mul, ← Nat.mul_assoc]
    congr 1
    omega
  have x1 := (k1 _).1 x1
  have x2 := (k2 _).1 x2
  have x3 : M % 2 = 1 → (4 * M - 2) * 2 ^ e * Y < 4 * X ∧ 4 * X < (4 * M + 2) * 2 ^ e * Y := fun g => by
    obtain ⟨a, b⟩ := x3 g
    exact ⟨Nat.lt_of_not_le fun h => by have := (k2 _).2 h; omega, Nat.lt_of_not_le fun h => by have := (k1 _).2 h; omega⟩
  have u1 : 2 * X ≤ md (rk M q) * Y := by
    rw [← m1, Nat.mul_assoc] at x2
    omega
  have hodd : M % 2 = 1 → ¬ (M = 4503599627370496 ∧ -1074 < q) := fun g h => by omega
  have l1 : md (rk M q - 1) * Y ≤ 2 * X := by
    rw [BB_v] at v2
    rw [← v2, Nat.mul_assoc] at x1
    omega
  have up : Q ≤ rk M q := by
    rcases Nat.lt_or_ge (2 * X) (md (rk M q) * Y) with g | g
    · exact hr.dn _ g
    · have h := hr.tie _ (Nat.le_antisymm u1 g)
      rw [v3] at h
      rcases Nat.mod_two_eq_zero_or_one M with g2 | g2
      · omega
      · have := (x3 g2).2
        rw [← m1, Nat.mul_assoc] at this
        omega
  have dn : rk M q ≤ Q := by
    rcases Nat.lt_or_ge (md (rk M q - 1) * Y) (2 * X) with g | g
    · have := hr.up _ g
      omega
    · have h := hr.tie _ (Nat.le_antisymm g l1)
      rcases Nat.mod_two_eq_zero_or_one M with g2 | g2
      · omega
      · have h3 := (x3 g2).1
        rw [BB_v, if_neg (hodd g2)] at v2
        rw [← v2, Nat.mul_assoc] at h3
        omega
  omega
end Go.Proofs.YtjniglmijikojaaGreatDoor.Real
namespace Go.Proofs.YtjniglmijikojaaGreatDoor.Real
open Ieee Go.Proofs.YtjniglmijikojaaGreatDoor.Own

theorem a1 (d u p : Nat) : d * u * p = 1 * (d * (u * p)) := by rw [Nat.one_mul, Nat.mul_assoc]
theorem a2 (d t u p : Nat) : d * t * u * p = 1 * (d * (t * (u * p))) := by rw [Nat.one_mul, Nat.mul_assoc, Nat.mul_assoc]
theorem a3 (d t u : Nat) : d * t * u * u = d * u * (t * u) := by ac_rfl
theorem a4 (y d k t z : Nat) : y * (d * k * (t * z)) = y * (d * (t * k * z)) := by ac_rfl

/-- r is the place of d * 10^e, rounded. -/
def Ex (d : Nat) (e : Int) (r : Nat) : Prop := ∃ Q X Y, r = min Q 9218868437227405312 ∧ 0 < Y ∧ X * pw (-1074) 0 = Y * (d * pw 0 e) ∧ Rnd X Y Q

theorem rk_lt {M : Nat} {q : Int} (h : Fit M q) : rk M q < 9218868437227405312 := by
  obtain ⟨h1, h2, h3, h4, h5⟩ := h
  unfold rk
  split
  · rw [BB_v] at *; omega
  · have := Nat.mul_le_mul_right BB (show (q + 1074).toNat ≤ 2045 by omega)
    rw [BB_v] at *
    omega
theorem ex_in {M : Nat} {q : Int} {d : Nat} {p : Int} {r : Nat} (hf : Fit M q) (hp : inr p) (hx : InX M q d p) (h : Ex d p r) : r = rk M q := by
  obtain ⟨Q, X, Y, h1, h2, h3, h4⟩ := h
  rw [h1, rnd_in hf hp h2 hx h3 h4]
  have := rk_lt hf
  omega

theorem pw_U (e : Int) (he : inr e) : pw 0 e = U * pw (-1074) e := by
  have h := pw_two (a := -1074) (P := e) ex (by unfold inr; omega) he
  rw [show (-1074 : Int) + (ex : Int) = 0 by unfold ex; omega] at h
  exact h
theorem pw_U0 : pw 0 0 = U * pw (-1074) 0 := pw_U 0 (by unfold inr; omega)

theorem ex_0 (d : Nat) (hd : d ≠ 0) : Ex d 0 (nr d 0) := by
  obtain ⟨Q, h1, h2⟩ := nat_rnd d hd
  refine ⟨Q, d * U, 1, h1, by omega, ?_, h2⟩
  rw [pw_U0]
  exact a1 _ _ _

theorem pw_up (j : Nat) : pw 0 (j : Int) = 10 ^ j * (U * pw (-1074) 0) := by
  have h := pw_ten (a := 0) (P := 0) j (by unfold inr; omega) (by unfold inr; omega)
  rw [Int.zero_add, pw_U0] at h
  exact h
theorem pw_dn (j : Nat) (hj : j ≤ 400) : 10 ^ j * pw 0 (-(j : Int)) = U * pw (-1074) 0 := by
  have h := pw_ten (a := 0) (P := -(j : Int)) j (by unfold inr; omega) (by unfold inr; omega)
  rw [show -(j : Int) + (j : Int) = 0 by omega, pw_U0] at h
  exact h.symm

theorem vl_nr {d : Nat} (hd : 0 < d) (hd2 : d < 9007199254740992) : U ≤ vl BB (nr d 0) ∧ vl BB (nr d 0) = d * U ∧ nr d 0 < 9218868437227405312 := by
  obtain ⟨h1, h2⟩ := nr_small d (by omega) hd2
  rw [h2]
  exact ⟨Nat.le_mul_of_pos_left _ hd, rfl, h1⟩
theorem ten_ge (j : Nat) (h : j ≤ 22) : U ≤ vl BB (P10 j) := by
  rw [(ten_at j h).2]
  exact Nat.le_mul_of_pos_left _ (Nat.pow_pos (by omega))

theorem ex_mul (s : Bool) (d j : Nat) (hd : 0 < d) (hd2 : d < 9007199254740992) (hj : j ≤ 22) : ∃ r, double.mul (double.word s (nr d 0)) (P10 j) = some (double.word s r) ∧ Ex d j r ∧ r ≤ 9218868437227405312 := by
  obtain ⟨v1, v2, v3⟩ := vl_nr hd hd2
  obtain ⟨t1, t2⟩ := ten_at j hj
  obtain ⟨Q, g1, g2⟩ := mul_rnd s false (nr d 0) (P10 j) v3 (by omega) v1 (ten_ge j hj)
  rw [word_false, Bool.xor_false] at g1
  refine ⟨_, g1, ⟨Q, d * 10 ^ j * U, 1, rfl, by omega, ?_, ?_⟩, Nat.min_le_right _ _⟩
  · rw [pw_up j]
    exact a2 _ _ _ _
  · apply rnd_scale U U_pos
    rw [v2, t2] at g2
    rw [Nat.one_mul, a3]
    exact g2

theorem ex_div (s : Bool) (d j : Nat) (hd : 0 < d) (hd2 : d < 9007199254740992) (hj : j ≤ 22) : ∃ r, double.div (double.word s (nr d 0)) (P10 j) = some (double.word s r) ∧ Ex d (-(j : Int)) r ∧ r ≤ 9218868437227405312 := by
  obtain ⟨v1, v2, v3⟩ := vl_nr hd hd2
  obtain ⟨t1, t2⟩ := ten_at j hj
  obtain ⟨Q, g1, g2⟩ := div_rnd s false (nr d 0) (P10 j) v3 (by omega) v1 (ten_ge j hj) (by omega)
  rw [word_false, Bool.xor_false] at g1
  refine ⟨_, g1, ⟨Q, d * U, 10 ^ j, rfl, Nat.pow_pos (by omega), ?_, ?_⟩, Nat.min_le_right _ _⟩
  · rw [Nat.mul_left_comm, pw_dn j (by omega)]
    exact Nat.mul_assoc _ _ _
  · apply rnd_scale U U_pos
    rw [v2, t2] at g2
    exact g2

theorem top15 : nr 1000000000000000 0 = 4831355200913801216 := by decide +kernel
theorem top15' : 4831355200913801216 < nr 1000000000000001 0 := by decide +kernel
/-- The first of two steps: it is exact, or told to be too large. -/
theorem ex_big (s : Bool) (d k : Nat) (hd : 0 < d) (hd2 : d < 9007199254740992) (hk : k ≤ 22) : ∃ r, double.mul (double.word s (nr d 0)) (P10 k) = some (double.word s r) ∧ r ≤ 9218868437227405312 ∧ (r ≤ 4831355200913801216 → d * 10 ^ k ≤ 1000000000000000 ∧ r = nr (d * 10 ^ k) 0) := by
  obtain ⟨v1, v2, v3⟩ := vl_nr hd hd2
  obtain ⟨t1, t2⟩ := ten_at k hk
  obtain ⟨Q, g1, g2⟩ := mul_rnd s false (nr d 0) (P10 k) v3 (by omega) v1 (ten_ge k hk)
  rw [word_false, Bool.xor_false] at g1
  have hpos : 0 < d * 10 ^ k := Nat.mul_pos hd (Nat.pow_pos (by omega))
  obtain ⟨Q2, e1, e2⟩ := nat_rnd (d * 10 ^ k) (by omega)
  have g3 : Rnd (d * 10 ^ k * U) 1 Q := by
    apply rnd_scale U U_pos
    rw [v2, t2] at g2
    rw [Nat.one_mul, a3]
    exact g2
  have hQ : Q = Q2 := Nat.le_antisymm (rnd_mono g3 e2 (by omega) (by omega) (Nat.le_refl _)) (rnd_mono e2 g3 (by omega) (by omega) (Nat.le_refl _))
  subst hQ
  rw [← e1] at g1
  refine ⟨_, g1, nr_le _ _, fun h => ?_⟩
  refine ⟨?_, rfl⟩
  rcases Nat.lt_or_ge 1000000000000000 (d * 10 ^ k) with h' | h'
  · have := nr_mono _ _ (show 1000000000000001 ≤ d * 10 ^ k from h')
    have := top15'
    omega
  · exact h'
theorem ex_shift {d k : Nat} {r : Nat} (h : Ex (d * 10 ^ k) ((22 : Nat) : Int) r) : Ex d (((22 + k : Nat)) : Int) r := by
  obtain ⟨Q, X, Y, h1, h2, h3, h4⟩ := h
  refine ⟨Q, X, Y, h1, h2, ?_, h4⟩
  rw [h3, pw_up 22, pw_up (22 + k), Nat.pow_add 10 22 k]
  exact a4 _ _ _ _ _
theorem big15 {d : Nat} : 4831355200913801216 < nr d 0 ↔ 1000000000000000 < d := by
  have t1 := top15
  have t2 := top15'
  constructor
  · intro h
    rcases Nat.lt_or_ge 1000000000000000 d with g | g
    · exact g
    · have := nr_mono _ _ g
      omega
  · intro h
    have := nr_mono _ _ (show 1000000000000001 ≤ d from h)
    omega
end Go.Proofs.YtjniglmijikojaaGreatDoor.Real
namespace Go.Proofs.YtjniglmijikojaaGreatDoor.Text
open Go.RowKit Go.Lib Go.Proofs.YtjniglmijikojaaGreatDoor.Own

/-- A variable holds a slice of n elements of k cells each. -/
def SliceAt (w : World) (g n k : Nat) (f : Nat → Value) : Prop :=
  g < w.heap.size ∧ ∃ B o c, w.cell? ⟨g, 0, none⟩ = some (.slice (some ⟨B, o, none⟩) n c) ∧ B < w.heap.size ∧ ∀ i, i < n * k → w.cell? ⟨B, o + i, none⟩ = some (f i)
theorem SliceAt.below {w w' : World} {g n k : Nat} {f : Nat → Value} (h : SliceAt w g n k f) (hb : Below w.heap.size w w') : SliceAt w' g n k f := by
  obtain ⟨h1, B, o, c, h2, h3, h4⟩ := h
  exact ⟨Nat.lt_of_lt_of_le h1 hb.size, B, o, c, by rw [hb.cell h1]; exact h2, Nat.lt_of_lt_of_le h3 hb.size, fun i hi => by rw [hb.cell h3]; exact h4 i hi⟩

theorem tab_below {w w' : World} {name : String} {k : IntKind} {zs : List Int} (h : TabIs Tryz.prog w name k zs) (hb : Below w.heap.size w w') : TabIs Tryz.prog w' name k zs := by
  unfold TabIs World.var? at *
  cases hg : Tryz.prog.globalNamed name with
  | none => simp [hg] at h
  | some g =>
    simp only [hg, Option.bind_some] at h ⊢
    have hlt : g < w.heap.size := by
      rcases Nat.lt_or_ge g w.heap.size with h' | h'
      · exact h'
      · rw [Array.getElem?_eq_none h'] at h; simp at h
    rw [hb.block g hlt]
    exact h

/-- How many digits come to it by a shift to the left. -/
def cheats : List (Nat × List Nat) := (List.range 61).map fun k =>
  let s := (Nat.toDigits 10 (5 ^ k)).map fun c => c.toNat
  (if k = 0 then 0 else k + 1 - s.length, if k = 0 then [] else s)
def cheatAt (i : Nat) : Value := match cheats[i / 2]? with
  | some (d, s) => if i % 2 = 0 then .int .i64 (d : Int) else .string ⟨(s.map fun c => UInt8.ofNat c).toArray⟩
  | none => .nilIface
def powAt (i : Nat) : Value := .int .i64 (([1, 3, 6, 9, 13, 16, 19, 23, 26] : List Int).getD i 0)

structure Tabs (w : World) : Prop where
  ten : Tens w
  dig : TabIs Tryz.prog w "internal/strconv.uint64pow10" .u64 pow10Tab
  f10 : SliceAt w 11 23 1 (fun i => .float .f64 (Real.P10 i))
  pt : SliceAt w 10 9 1 powAt
  lc : SliceAt w 8 61 2 cheatAt
  big : 11 < w.heap.size
  op : w.cell? ⟨1, 0, none⟩ = some (.bool true)
  e2 : ∃ ev, w.cell? ⟨2, 0, none⟩ = some ev ∧ (ev = .nilIface ∨ ∃ te pe, ev = .iface te pe)
  e3 : ∃ ev, w.cell? ⟨3, 0, none⟩ = some ev ∧ (ev = .nilIface ∨ ∃ te pe, ev = .iface te pe)
  i0 : w.cell? ⟨6, 0, none⟩ = some (.int .u64 52)
  i1 : w.cell? ⟨6, 1, none⟩ = some (.int .u64 11)
  i2 : w.cell? ⟨6, 2, none⟩ = some (.int .i64 (-1023))
theorem Tabs.below {w w' : World} (h : Tabs w) (hb : Below w.heap.size w w') : Tabs w' := by
  have c : ∀ g o, g ≤ 11 → w'.cell? ⟨g, o, none⟩ = w.cell? ⟨g, o, none⟩ := fun g o hg => hb.cell (Nat.lt_of_le_of_lt hg h.big)
  exact ⟨h.ten.below hb, tab_below h.dig hb, h.f10.below hb, h.pt.below hb, h.lc.below hb, Nat.lt_of_lt_of_le h.big hb.size, by rw [c _ _ (by omega)]; exact h.op,
    by rw [c _ _ (by omega)]; exact h.e2, by rw [c _ _ (by omega)]; exact h.e3, by rw [c _ _ (by omega)]; exact h.i0, by rw [c _ _ (by omega)]; exact h.i1, by rw [c _ _ (by omega)]; exact h.i2⟩
end Go.Proofs.YtjniglmijikojaaGreatDoor.Text
namespace Go.Proofs.YtjniglmijikojaaGreatDoor.PRealTexts
open Go.RowKit Go.Proofs.YtjniglmijikojaaGreatDoorW.PrintWords Go.Proofs.YtjniglmijikojaaGreatDoorW.PrintLast Go.Proofs.YtjniglmijikojaaGreatDoorW.PrintMore
attribute [local go_sem] max2_int min2_int max_two min_two max_three min_three max_four min_four   -- for this text's walks alone
set_option linter.unusedVariables false
set_option linter.unusedSimpArgs false


/-! ### strconv_prefixIsLessThan: function 97 -/
def strconv_prefixIsLessThan.l0 : Nat → List Int → ByteArray → Int → Option (Bool)
  | 0, _, _, _ => none
  | k + 1, x0, x1, x5 => if x5 < (x1.size : Int) then (if x5 ≥ (x0.length : Int) then (some true) else (if 0 ≤ x5 then (if x5 < (x0.length : Int) then (if (rd x0 x5) = (bt x1 x5) then (strconv_prefixIsLessThan.l0 k x0 x1 (wrap64 (x5 + 1))) else (some (decide ((rd x0 x5) < (bt x1 x5))))) else (none)) else (none))) else (some false)
def strconv_prefixIsLessThan.f (k : Nat) (l0 : List Int) (a1 : ByteArray) : Option (Bool) := strconv_prefixIsLessThan.l0 k l0 a1 0
theorem strconv_prefixIsLessThan.mono_l : ∀ k, (∀ y0 y1 y2, LeO (strconv_prefixIsLessThan.l0 k y0 y1 y2) (strconv_prefixIsLessThan.l0 (k + 1) y0 y1 y2))
  | 0 => fun _ _ _ r h => by simp [strconv_prefixIsLessThan.l0] at h
  | k + 1 => by
    have ih0 := strconv_prefixIsLessThan.mono_l k
    · intro y0 y1 y2
      unfold strconv_prefixIsLessThan.l0
      repeat' first
      | (with_reducible exact ih0 _ _ _)
      | (with_reducible exact LeO.refl _)
      | (with_reducible exact LeO.none _)
      | (with_reducible refine LeO.ite ?_ ?_)
      | (with_reducible refine LeO.bind ?_ (fun _ => ?_))
      | exact ih0 _ _ _
      | exact LeO.none _
      | refine LeO.ite ?_ ?_
      | refine LeO.bind ?_ (fun _ => ?_)
theorem strconv_prefixIsLessThan.mono : ∀ a0 a1 k, LeO (strconv_prefixIsLessThan.f k a0 a1) (strconv_prefixIsLessThan.f (k + 1) a0 a1) := by
  intro a0 a1 k
  have ih0 := strconv_prefixIsLessThan.mono_l k
  unfold strconv_prefixIsLessThan.f
  repeat' first
      | (with_reducible exact ih0 _ _ _)
      | (with_reducible exact LeO.refl _)
      | (with_reducible exact LeO.none _)
      | (with_reducible refine LeO.ite ?_ ?_)
      | (with_reducible refine LeO.bind ?_ (fun _ => ?_))
      | exact ih0 _ _ _
      | exact LeO.none _
      | refine LeO.ite ?_ ?_
      | refine LeO.bind ?_ (fun _ => ?_)
set_option maxHeartbeats 8000000 in
set_option maxRecDepth 100000 in
theorem strconv_prefixIsLessThan.calls (k : Nat) (A0 : Option Addr) (c0 : Nat) (l0 : List Int) (a1 : ByteArray) (r : Bool) (w : World) (hr0 : Kd.C (Kd.int .u8) w A0 l0.length l0) (hc0 : l0.length ≤ c0) (h : strconv_prefixIsLessThan.f k l0 a1 = some r) :
    Calls Tryz.prog 97 #[.slice A0 l0.length c0, .string a1] w fun e w' => e = .returned (.bool r) ∧ Drawn0 w w' := by
  have HR0 := Aside0.mk hr0
  have HC0 := Aside0.mk hc0
  clear hr0 hc0
  have H : (strconv_prefixIsLessThan.l0 k l0 a1 0) = some r := h
  clear h
  have H' := Aside0.mk H
  clear H
  go_enter Tryz.func97, Tryz.ntmps97
  go_wp2
  repeat (go_quiet (fail); try go_wp2)
  go_loopg [5] k (fun kq v5 w' => ∃ (x5_1 : Int), v5 = .int .i64 x5_1 ∧ Aside0 (strconv_prefixIsLessThan.l0 kq l0 a1 x5_1 = some r) ∧ Aside0 (kq ≤ k) ∧ Drawn0 w w')
  case atStart => exact ⟨(0), (by first | rfl | (simp; done) | (simp [*]; done)), H', ⟨Nat.le_refl _⟩, by repeat (first | exact Drawn0.refl _ | apply Drawn0.step)⟩
  case round =>
    clear H'
    try clear p2
    obtain ⟨x5_1, rfl, HA, HK1, ⟨m1, rfl⟩⟩ := hrel
    cases gk with
    | zero => exact absurd HA.out (by simp [strconv_prefixIsLessThan.l0])
    | succ k1 =>
      have H := HA.out
      clear HA
      simp only [strconv_prefixIsLessThan.l0] at H
      by_cases c3 : x5_1 < (a1.size : Int)
      · rw [if_pos c3] at H
        have c3b0 : decide (x5_1 < (a1.size : Int)) = true := decide_eq_true c3
        clear c3
        by_cases c4 : x5_1 ≥ (l0.length : Int)
        · rw [if_pos c4] at H
          have c4b0 : decide ((l0.length : Int) ≤ x5_1) = true := decide_eq_true c4
          clear c4
          obtain rfl := Option.some.inj H
          go_wp2
          repeat (go_quiet (fail); try go_wp2)
          go_ret
          exact ⟨by first | rfl | (simp; done) | (simp [*]; done), by repeat (first | exact Drawn0.refl _ | apply Drawn0.step)⟩
        · rw [if_neg c4] at H
          have c4b0 : decide ((l0.length : Int) ≤ x5_1) = false := decide_eq_false c4
          clear c4
          by_cases c5 : 0 ≤ x5_1
          · rw [if_pos c5] at H
            have c5b0 : decide (0 ≤ x5_1) = true := decide_eq_true c5
            clear c5
            by_cases c6 : x5_1 < (l0.length : Int)
            · rw [if_pos c6] at H
              have c6b0 : decide (x5_1 < (l0.length : Int)) = true := decide_eq_true c6
              clear c6
              by_cases c8 : (rd l0 x5_1) = (bt a1 x5_1)
              · rw [if_pos c8] at H
                have c8b0 : ((rd l0 x5_1) == (bt a1 x5_1)) = true := beq_iff_eq.mpr c8
                have c8b1 : ((rd l0 x5_1) != (bt a1 x5_1)) = false := bne_eq_false_iff_eq.mpr c8
                clear c8
                have H' := Aside0.mk H
                clear H
                have p271 : 0 ≤ (x5_1 : Int) := of_decide_eq_true (by first | (with_reducible assumption) | assumption)
                have q271 : x5_1 < (l0.length : Int) := of_decide_eq_true (by first | (with_reducible assumption) | assumption)
                obtain ⟨ad271, e271, hx271_0⟩ := Kd.at_int HR0.out x5_1 p271 q271
                cases e271
                replace p271 := eq_true p271
                replace q271 := eq_true q271
                have p7 : 0 ≤ (x5_1 : Int) := of_decide_eq_true (by first | (with_reducible assumption) | assumption)
                have q7 : x5_1 < (a1.size : Int) := of_decide_eq_true (by first | (with_reducible assumption) | assumption)
                have hx7 := bt_at a1 x5_1
                replace p7 := eq_true p7
                replace q7 := eq_true q7
                go_wp2
                repeat (go_quiet (fail); try go_wp2)
                go_roundg k1
                case measure => have := HK1.out; omega
                case rel => exact ⟨(wrap64 (x5_1 + 1)), (by first | rfl | (simp; done) | (simp [*]; done)), H', ⟨by have := HK1.out; omega⟩, by repeat (first | exact Drawn0.refl _ | apply Drawn0.step)⟩
              · rw [if_neg c8] at H
                have c8b0 : ((rd l0 x5_1) == (bt a1 x5_1)) = false := beq_eq_false_iff_ne.mpr c8
                have c8b1 : ((rd l0 x5_1) != (bt a1 x5_1)) = true := bne_iff_ne.mpr c8
                obtain rfl := Option.some.inj H
                have p271 : 0 ≤ (x5_1 : Int) := of_decide_eq_true (by first | (with_reducible assumption) | assumption)
                have q271 : x5_1 < (l0.length : Int) := of_decide_eq_true (by first | (with_reducible assumption) | assumption)
                obtain ⟨ad271, e271, hx271_0⟩ := Kd.at_int HR0.out x5_1 p271 q271
                cases e271
                replace p271 := eq_true p271
                replace q271 := eq_true q271
                have p7 : 0 ≤ (x5_1 : Int) := of_decide_eq_true (by first | (with_reducible assumption) | assumption)
                have q7 : x5_1 < (a1.size : Int) := of_decide_eq_true (by first | (with_reducible assumption) | assumption)
                have hx7 := bt_at a1 x5_1
                replace p7 := eq_true p7
                replace q7 := eq_true q7
                have p272 : 0 ≤ (x5_1 : Int) := of_decide_eq_true (by first | (with_reducible assumption) | assumption)
                have q272 : x5_1 < (l0.length : Int) := of_decide_eq_true (by first | (with_reducible assumption) | assumption)
                obtain ⟨ad272, e272, hx272_0⟩ := Kd.at_int HR0.out x5_1 p272 q272
                obtain rfl : ad271 = ad272 := (by injection e272)
                replace p272 := eq_true p272
                replace q272 := eq_true q272
                have p9 : 0 ≤ (x5_1 : Int) := of_decide_eq_true (by first | (with_reducible assumption) | assumption)
                have q9 : x5_1 < (a1.size : Int) := of_decide_eq_true (by first | (with_reducible assumption) | assumption)
                have hx9 := bt_at a1 x5_1
                replace p9 := eq_true p9
                replace q9 := eq_true q9
                go_wp2
                repeat (go_quiet (fail); try go_wp2)
                go_ret
                exact ⟨by first | rfl | (simp; done) | (simp [*]; done), by repeat (first | exact Drawn0.refl _ | apply Drawn0.step)⟩
            · rw [if_neg c6] at H
              exact absurd H (by simp)
          · rw [if_neg c5] at H
            exact absurd H (by simp)
      · rw [if_neg c3] at H
        have c3b0 : decide (x5_1 < (a1.size : Int)) = false := decide_eq_false c3
        clear c3
        obtain rfl := Option.some.inj H
        go_wp2
        repeat (go_quiet (fail); try go_wp2)
        go_ret
        exact ⟨by first | rfl | (simp; done) | (simp [*]; done), by repeat (first | exact Drawn0.refl _ | apply Drawn0.step)⟩

end Go.Proofs.YtjniglmijikojaaGreatDoor.PRealTexts
namespace Go.Proofs.YtjniglmijikojaaGreatDoor.Text
set_option linter.unusedSimpArgs false
set_option linter.unusedVariables false
open Go.RowKit Go.Lib Go.Proofs.YtjniglmijikojaaGreatDoor.Own Go.Proofs.YtjniglmijikojaaGreatDoorW.PrintWords

/-- A decimal lies in block g: its bytes, how many of them count, its point. -/
structure Dec (w : World) (g : Nat) (f : Nat → Int) (nd : Nat) (dp : Int) : Prop where
  cell : ∀ i, i < 800 → w.cell? ⟨g, i, none⟩ = some (.int .u8 (f i))
  nd : w.cell? ⟨g, 800, none⟩ = some (.int .i64 (nd : Int))
  dp : w.cell? ⟨g, 801, none⟩ = some (.int .i64 dp)
  neg : ∃ b, w.cell? ⟨g, 802, none⟩ = some (.bool b)
  tr : ∃ b, w.cell? ⟨g, 803, none⟩ = some (.bool b)
  fz : ∀ i, w.frozen? ⟨g, i, none⟩ = false
  lt : g < w.heap.size

def updI (f : Nat → Int) (i : Nat) (v : Int) : Nat → Int := fun j => if j = i then v else f j
theorem addr_ne {g i j : Nat} (h : i ≠ j) : (⟨g, i, none⟩ : Addr) ≠ ⟨g, j, none⟩ := fun e => h (by injection e)

theorem cs_same {w : World} {a : Addr} {u v : Value} (h : w.cell? a = some u) : (w.setCell a v).cell? a = some v := World.cell?_setCell_same _ _ _ h
theorem cs_other {w : World} {g i j : Nat} {v : Value} (h : (⟨g, i, none⟩ : Addr) ≠ ⟨g, j, none⟩) : (w.setCell ⟨g, i, none⟩ v).cell? ⟨g, j, none⟩ = w.cell? ⟨g, j, none⟩ := World.cell?_setCell_other _ _ _ _ h
theorem Dec.setD {w : World} {g : Nat} {f : Nat → Int} {nd : Nat} {dp : Int} (h : Dec w g f nd dp) (i : Nat) (hi : i < 800) (v : Int) : Dec (w.setCell ⟨g, i, none⟩ (.int .u8 v)) g (updI f i v) nd dp := by
  refine ⟨fun j hj => ?_, ?_, ?_, ?_, ?_, fun j => ?_, ?_⟩
  · unfold updI
    by_cases e : j = i
    · subst e
      rw [if_pos rfl]
      exact cs_same (h.cell j hj)
    · rw [if_neg e, cs_other (addr_ne (Ne.symm e))]
      exact h.cell j hj
  · rw [cs_other (addr_ne (by omega))]; exact h.nd
  · rw [cs_other (addr_ne (by omega))]; exact h.dp
  · rw [cs_other (addr_ne (by omega))]; exact h.neg
  · rw [cs_other (addr_ne (by omega))]; exact h.tr
  · rw [World.frozen?_setCell]; exact h.fz j
  · exact Nat.lt_of_lt_of_le h.lt ((Below.refl 0 w).setCell (Nat.zero_le _) _).size
theorem Dec.setNd {w : World} {g : Nat} {f : Nat → Int} {nd : Nat} {dp : Int} (h : Dec w g f nd dp) (n : Nat) : Dec (w.setCell ⟨g, 800, none⟩ (.int .i64 (n : Int))) g f n dp := by
  refine ⟨fun j hj => ?_, ?_, ?_, ?_, ?_, fun j => ?_, ?_⟩
  · rw [cs_other (addr_ne (by omega))]; exact h.cell j hj
  · exact cs_same h.nd
  · rw [cs_other (addr_ne (by omega))]; exact h.dp
  · rw [cs_other (addr_ne (by omega))]; exact h.neg
  · rw [cs_other (addr_ne (by omega))]; exact h.tr
  · rw [World.frozen?_setCell]; exact h.fz j
  · exact Nat.lt_of_lt_of_le h.lt ((Below.refl 0 w).setCell (Nat.zero_le _) _).size
theorem Dec.setDp {w : World} {g : Nat} {f : Nat → Int} {nd : Nat} {dp : Int} (h : Dec w g f nd dp) (p : Int) : Dec (w.setCell ⟨g, 801, none⟩ (.int .i64 p)) g f nd p := by
  refine ⟨fun j hj => ?_, ?_, ?_, ?_, ?_, fun j => ?_, ?_⟩
  · rw [cs_other (addr_ne (by omega))]; exact h.cell j hj
  · rw [cs_other (addr_ne (by omega))]; exact h.nd
  · exact cs_same h.dp
  · rw [cs_other (addr_ne (by omega))]; exact h.neg
  · rw [cs_other (addr_ne (by omega))]; exact h.tr
  · rw [World.frozen?_setCell]; exact h.fz j
  · exact Nat.lt_of_lt_of_le h.lt ((Below.refl 0 w).setCell (Nat.zero_le _) _).size
theorem Dec.setNeg {w : World} {g : Nat} {f : Nat → Int} {nd : Nat} {dp : Int} (h : Dec w g f nd dp) (b : Bool) : Dec (w.setCell ⟨g, 802, none⟩ (.bool b)) g f nd dp := by
  obtain ⟨b0, hb0⟩ := h.neg
  refine ⟨fun j hj => ?_, ?_, ?_, ?_, ?_, fun j => ?_, ?_⟩
  · rw [cs_other (addr_ne (by omega))]; exact h.cell j hj
  · rw [cs_other (addr_ne (by omega))]; exact h.nd
  · rw [cs_other (addr_ne (by omega))]; exact h.dp
  · exact ⟨b, cs_same hb0⟩
  · rw [cs_other (addr_ne (by omega))]; exact h.tr
  · rw [World.frozen?_setCell]; exact h.fz j
  · exact Nat.lt_of_lt_of_le h.lt ((Below.refl 0 w).setCell (Nat.zero_le _) _).size
theorem Dec.setTr {w : World} {g : Nat} {f : Nat → Int} {nd : Nat} {dp : Int} (h : Dec w g f nd dp) (b : Bool) : Dec (w.setCell ⟨g, 803, none⟩ (.bool b)) g f nd dp := by
  obtain ⟨b0, hb0⟩ := h.tr
  refine ⟨fun j hj => ?_, ?_, ?_, ?_, ?_, fun j => ?_, ?_⟩
  · rw [cs_other (addr_ne (by omega))]; exact h.cell j hj
  · rw [cs_other (addr_ne (by omega))]; exact h.nd
  · rw [cs_other (addr_ne (by omega))]; exact h.dp
  · rw [cs_other (addr_ne (by omega))]; exact h.neg
  · exact ⟨b, cs_same hb0⟩
  · rw [World.frozen?_setCell]; exact h.fz j
  · exact Nat.lt_of_lt_of_le h.lt ((Below.refl 0 w).setCell (Nat.zero_le _) _).size
theorem Dec.drew {w : World} {g : Nat} {f : Nat → Int} {nd : Nat} {dp : Int} (h : Dec w g f nd dp) : Dec w.drew g f nd dp := ⟨h.cell, h.nd, h.dp, h.neg, h.tr, h.fz, h.lt⟩

/-- How many digits it has, as a measure. -/
def ndOf (w : World) (g : Nat) : Nat := match w.cell? ⟨g, 800, none⟩ with | some (.int _ x) => x.toNat | _ => 0
theorem Dec.ndOf {w : World} {g : Nat} {f : Nat → Int} {nd : Nat} {dp : Int} (h : Dec w g f nd dp) : ndOf w g = nd := by
  unfold Text.ndOf
  rw [h.nd]
  exact Int.toNat_natCast nd

/-- Its digits are digits. -/
def Digs (f : Nat → Int) (nd : Nat) : Prop := ∀ i, i < nd → 48 ≤ f i ∧ f i ≤ 57

set_option maxRecDepth 30000 in
set_option maxHeartbeats 2000000 in
theorem trim_any (w : World) (g : Nat) (f : Nat → Int) (nd : Nat) (dp : Int) (hn : nd ≤ 800) (hd : Dec w g f nd dp) (hf : Digs f nd) :
    Calls Tryz.prog 73 #[.pointer (some ⟨g, 0, none⟩)] w fun e w' => e = .returned (.tuple #[]) ∧ Below g w w' ∧
      ∃ m, m ≤ nd ∧ (0 < nd → f 0 ≠ 48 → 0 < m) ∧ Dec w' g f m (if m = 0 then 0 else dp) := by
  have HD := Aside0.mk hd
  have HN := Aside0.mk hn
  have HF := Aside0.mk hf
  clear hd hn hf
  go_enter Tryz.func73, Tryz.ntmps73
  go_wp2
  go_loopw [] (fun wr => ∃ m, m ≤ nd ∧ (0 < nd → f 0 ≠ 48 → 0 < m) ∧ Dec wr g f m dp ∧ Below g w wr) (fun wr => ndOf wr g)
  case atStart => exact ⟨nd, Nat.le_refl _, fun h _ => h, HD.out, Below.refl _ _⟩
  case round =>
    obtain ⟨m, hm, hm0, hdm, hb⟩ := hrel
    have HB := Aside0.mk hb
    have HM := Aside0.mk hm
    have HM0 := Aside0.mk hm0
    have HDM := Aside0.mk hdm
    have hlt := hdm.lt
    have hfz := hdm.fz
    rcases Nat.eq_zero_or_pos m with h | h
    · subst h
      have c0 : wr.cell? ⟨g, 800, none⟩ = some (.int .i64 0) := hdm.nd
      have c1 := hdm.dp
      clear hb hm hm0 hdm
      go_wp2
      go_region
      go_wp2
      go_end0
      exact ⟨rfl, (HB.out.setCell (Nat.le_refl _) _).drew, 0, Nat.zero_le _, HM0.out, by rw [if_pos rfl]; exact (HDM.out.setDp 0).drew⟩
    · have hm800 : m ≤ 800 := Nat.le_trans hm HN.out
      obtain ⟨m1, rfl⟩ : ∃ m1, m = m1 + 1 := ⟨m - 1, by omega⟩
      have c0 : wr.cell? ⟨g, 800, none⟩ = some (.int .i64 ((m1 : Int) + 1)) := hdm.nd
      have c1 := hdm.cell m1 (by omega)
      have hm1b : (m1 : Int) ≤ 799 := by omega
      have g1 := eq_true (show (0 : Int) < (m1 : Int) + 1 by omega)
      have g2 := eq_true (show m1 < 800 by omega)
      have hp : ((m1 : Int) + 1 == 0) = false := beq_eq_false_iff_ne.2 (by omega)
      obtain ⟨y, hy⟩ : ∃ y, f m1 = y := ⟨_, rfl⟩
      rw [hy] at c1
      have HY := Aside0.mk hy
      clear hb hm hm0 hdm hm800 h hy
      by_cases h0 : y = 48
      · subst h0
        go_wp2
        go_region
        go_wp2
        go_roundw
        case measure =>
          rw [((HDM.out.setNd m1).drew).ndOf, HDM.out.ndOf]
          omega
        case rel =>
          refine ⟨m1, by have := HM.out; omega, fun h1 h2 => ?_, (HDM.out.setNd m1).drew, (HB.out.setCell (Nat.le_refl _) _).drew⟩
          rcases Nat.eq_zero_or_pos m1 with h | h
          · subst h
            exact absurd HY.out h2
          · exact h
      · have p1 : (y == 48) = false := beq_eq_false_iff_ne.2 h0
        go_wp2
        go_region
        go_wp2
        go_end0
        exact ⟨rfl, HB.out.drew, m1 + 1, HM.out, HM0.out, by rw [if_neg (by omega)]; exact HDM.out.drew⟩

def BoolRes (w : World) (e : Ending) (w' : World) : Prop := (∃ b, e = .returned (.bool b)) ∧ w = w'

set_option maxRecDepth 30000 in
set_option maxHeartbeats 2000000 in
theorem round_up (w : World) (g : Nat) (f : Nat → Int) (nd : Nat) (dp n : Int) (hn : nd ≤ 800) (hd : Dec w g f nd dp) (hf : Digs f nd) :
    Calls Tryz.prog 76 #[.pointer (some ⟨g, 0, none⟩), .int .i64 n] w (BoolRes w) := by
  have c0 := hd.nd
  have hfz := hd.fz
  have hlt := hd.lt
  rcases (show n < 0 ∨ (nd : Int) ≤ n ∨ (0 ≤ n ∧ n < nd) by omega) with h | h | ⟨h, h2⟩
  · have p1 := eq_true h
    clear hd hf h
    go_enter Tryz.func76, Tryz.ntmps76
    go_wp2
    go_ret
    exact ⟨⟨_, rfl⟩, rfl⟩
  · have p1 := eq_false (show ¬ n < 0 by omega)
    have p2 := eq_true h
    clear hd hf h
    go_enter Tryz.func76, Tryz.ntmps76
    go_wp2
    go_ret
    exact ⟨⟨_, rfl⟩, rfl⟩
  · obtain ⟨k, rfl⟩ : ∃ k : Nat, n = (k : Int) := ⟨n.toNat, by omega⟩
    have hk : k < nd := by omega
    have p1 := eq_false (show ¬ (k : Int) < 0 by omega)
    have p2 := eq_false (show ¬ (nd : Int) ≤ (k : Int) by omega)
    have p3 := eq_true (show k < 800 by omega)
    have hkb : (k : Int) ≤ 799 := by omega
    have c1 := hd.cell k (by omega)
    obtain ⟨tr, ctr⟩ := hd.tr
    obtain ⟨y, hy⟩ : ∃ y, f k = y := ⟨_, rfl⟩
    rw [hy] at c1
    have hyr : 48 ≤ y ∧ y ≤ 57 := by rw [← hy]; exact hf k hk
    by_cases h0 : y = 53
    · subst h0
      cases p5 : ((k : Int) + 1 == (nd : Int))
      · clear hd hf h h2 hk hn hy
        go_enter Tryz.func76, Tryz.ntmps76
        go_wp2
        go_ret
        exact ⟨⟨_, rfl⟩, rfl⟩
      · cases tr
        · rcases Nat.eq_zero_or_pos k with hk0 | hk0
          · subst hk0
            have e0 : ((0 : Nat) : Int) = 0 := rfl
            rw [e0] at p1 p2 p5 hkb ⊢
            have p5' : ((1 : Int) == (nd : Int)) = true := p5
            have p7 := eq_false (show ¬ nd = 0 by omega)
            clear hd hf h h2 hk hn hy
            go_enter Tryz.func76, Tryz.ntmps76
            go_wp2
            go_ret
            exact ⟨⟨_, rfl⟩, rfl⟩
          · obtain ⟨k1, rfl⟩ : ∃ k1, k = k1 + 1 := ⟨k - 1, by omega⟩
            have c2 := hd.cell k1 (by omega)
            have hz := hf k1 (by omega)
            obtain ⟨z, hz0⟩ : ∃ z, f k1 = z := ⟨_, rfl⟩
            rw [hz0] at c2 hz
            have g2 := eq_true (show k1 < 800 by omega)
            have e1 : ((k1 + 1 : Nat) : Int) = (k1 : Int) + 1 := rfl
            rw [e1] at p1 p2 p5 hkb ⊢
            have d1 : decide ((k1 : Int) + 1 < 0) = false := decide_eq_false (by omega)
            have d2 : decide ((nd : Int) ≤ (k1 : Int) + 1) = false := decide_eq_false (by omega)
            have g3 := eq_true (show (0 : Int) < (k1 : Int) + 1 by omega)
            have hkb2 : (k1 : Int) ≤ 798 := by omega
            clear hd hf h h2 hk hn hy hz0 hk0
            go_enter Tryz.func76, Tryz.ntmps76
            go_wp2
            go_ret
            exact ⟨⟨_, rfl⟩, rfl⟩
        · clear hd hf h h2 hk hn hy
          go_enter Tryz.func76, Tryz.ntmps76
          go_wp2
          go_ret
          exact ⟨⟨_, rfl⟩, rfl⟩
    · have p4 : (y == 53) = false := beq_eq_false_iff_ne.2 h0
      clear hd hf h h2 hk hn hy h0
      go_enter Tryz.func76, Tryz.ntmps76
      go_wp2
      go_ret
      exact ⟨⟨_, rfl⟩, rfl⟩
end Go.Proofs.YtjniglmijikojaaGreatDoor.Text
