/- Plain laws on floats of 64 bits: to round to the nearest keeps the order; quotients. No conditions but the width. -/
import Derived.Test.YthpmhjlndnelfaaDoorOwnWhole
namespace Go.Proofs.YthpmhjlndnelfaaDoor.Real
open Ieee

/-- Twice the middle between a rung and the next one. -/
def md (r : Nat) : Nat := vl BB r + vl BB (r + 1)

/-- 'X / Y', in units of the least, is rounded to the rung Q. -/
structure Rnd (X Y Q : Nat) : Prop where
  dn : ∀ r, 2 * X < md r * Y → Q ≤ r
  up : ∀ r, md r * Y < 2 * X → r + 1 ≤ Q
  tie : ∀ r, 2 * X = md r * Y → Q = r + r % 2

theorem rnd_mono {X Y Q X' Y' Q' : Nat} (h : Rnd X Y Q) (h' : Rnd X' Y' Q') (hY : 0 < Y) (hY' : 0 < Y') (hx : X * Y' ≤ X' * Y) : Q ≤ Q' := by
  rcases Nat.lt_or_ge Q' Q with hlt | hge
  · exfalso
    have h1 : md Q' * Y ≤ 2 * X := by
      rcases Nat.lt_or_ge (2 * X) (md Q' * Y) with g | g
      · have := h.dn _ g; omega
      · exact g
    have h2 : 2 * X' ≤ md Q' * Y' := by
      rcases Nat.lt_or_ge (md Q' * Y') (2 * X') with g | g
      · have := h'.up _ g; omega
      · exact g
    have e1 : md Q' * Y * Y' ≤ 2 * X * Y' := Nat.mul_le_mul_right _ h1
    have e2 : 2 * X' * Y ≤ md Q' * Y' * Y := Nat.mul_le_mul_right _ h2
    have e3 : md Q' * Y' * Y = md Q' * Y * Y' := by rw [Nat.mul_assoc, Nat.mul_comm Y' Y, Nat.mul_assoc]
    have e4 : 2 * X * Y' = 2 * (X * Y') := Nat.mul_assoc _ _ _
    have e5 : 2 * X' * Y = 2 * (X' * Y) := Nat.mul_assoc _ _ _
    have t1 : 2 * X = md Q' * Y := Nat.eq_of_mul_eq_mul_right hY' (by omega)
    have t2 : 2 * X' = md Q' * Y' := Nat.eq_of_mul_eq_mul_right hY (by omega)
    have g1 := h.tie _ t1
    have g2 := h'.tie _ t2
    omega
  · exact hge

theorem vl_lt' {r s : Nat} (h : r < s) : vl BB r < vl BB s := (vl_lt BB r s BB_pos).2 h
theorem vl_le' {r s : Nat} (h : r ≤ s) : vl BB r ≤ vl BB s := (vl_le r s).2 h

theorem md_below {r R : Nat} (h : r < R) : md r < 2 * vl BB R := by
  have h1 := vl_lt' h
  have h2 := vl_le' (show r + 1 ≤ R from h)
  unfold md
  omega
theorem md_above {r R : Nat} (h : R ≤ r) : 2 * vl BB R < md r := by
  have h1 := vl_le' h
  have h2 := vl_lt' (show R < r + 1 by omega)
  unfold md
  omega

theorem rnd_exact (Q : Nat) : Rnd (vl BB Q) 1 Q := by
  constructor
  · intro r h
    rcases Nat.lt_or_ge r Q with g | g
    · have := md_below g; omega
    · exact g
  · intro r h
    rcases Nat.lt_or_ge r Q with g | g
    · exact g
    · have := md_above g; omega
  · intro r h
    exfalso
    rcases Nat.lt_or_ge r Q with g | g
    · have := md_below g; omega
    · have := md_above g; omega

theorem dbl (B k : Nat) (h : 0 < B) : B * (k * 2) = (2 * B - 1 + 1) * k := by
  rw [Nat.sub_add_cancel (by omega), Nat.mul_comm k 2, ← Nat.mul_assoc, Nat.mul_comm B 2]

theorem rnd_core (D low X Y kept : Nat) (h1 : BB ≤ low) (h2 : low < 2 * BB) (hY : 0 < Y) (f1 : low * 2 ^ D * Y ≤ X) (f2 : X < (low + 1) * 2 ^ D * Y)
    (k1 : 2 * X < (2 * low + 1) * 2 ^ D * Y → kept = low) (k2 : (2 * low + 1) * 2 ^ D * Y < 2 * X → kept = low + 1) (k3 : 2 * X = (2 * low + 1) * 2 ^ D * Y → kept = low + low % 2) :
    Rnd X Y (D * BB + kept) := by
  have e1 : vl BB (D * BB + low) = low * 2 ^ D := vl_form D low h1 h2
  have e2 : vl BB (D * BB + low + 1) = (low + 1) * 2 ^ D := by
    rcases Nat.lt_or_ge (low + 1) (2 * BB) with g | g
    · exact (congrArg (vl BB) (Nat.add_assoc _ _ _)).trans (vl_form D (low + 1) (Nat.le_succ_of_le h1) g)
    · obtain rfl : low = 2 * BB - 1 := by omega
      have hf := vl_form (D + 1) BB (Nat.le_refl _) (by decide)
      have hz : D * BB + (2 * BB - 1) + 1 = (D + 1) * BB + BB := by rw [Nat.add_mul, Nat.one_mul]; have := BB_pos; omega
      exact (congrArg (vl BB) hz).trans (hf.trans ((congrArg (fun k => BB * k) (Nat.pow_succ (n := 2) (m := D))).trans (dbl BB _ BB_pos)))
  have e3 : md (D * BB + low) = (2 * low + 1) * 2 ^ D := by
    unfold md
    rw [e1, e2, ← Nat.add_mul]
    congr 1
    omega
  have hk : kept = low ∨ kept = low + 1 := by
    rcases Nat.lt_trichotomy (2 * X) ((2 * low + 1) * 2 ^ D * Y) with g | g | g
    · exact .inl (k1 g)
    · have := k3 g; omega
    · exact .inr (k2 g)
  rw [← e1] at f1
  rw [← e2] at f2
  rw [← e3] at k1 k2 k3
  clear e1 e2 e3
  have lo : ∀ r, r < D * BB + low → md r * Y < 2 * X := by
    intro r g
    have a1 := Nat.mul_lt_mul_of_pos_right (md_below g) hY
    rw [Nat.mul_assoc] at a1
    omega
  have hi : ∀ r, D * BB + low + 1 ≤ r → 2 * X < md r * Y := by
    intro r g
    have a1 := Nat.mul_lt_mul_of_pos_right (md_above g) hY
    rw [Nat.mul_assoc] at a1
    omega
  constructor
  · intro r h
    rcases Nat.lt_trichotomy r (D * BB + low) with g | g | g
    · have := lo r g; omega
    · subst g; have := k1 h; omega
    · omega
  · intro r h
    rcases Nat.lt_trichotomy r (D * BB + low) with g | g | g
    · omega
    · subst g; have := k2 h; omega
    · have := hi r (by omega); omega
  · intro r h
    rcases Nat.lt_trichotomy r (D * BB + low) with g | g | g
    · have := lo r g; omega
    · subst g; have := k3 h; rw [BB_v] at *; omega
    · have := hi r (by omega); omega

theorem even_cut3 (n d : Nat) (hd : d ≤ n.log2 + 2) :
    (2 * (n % 2 ^ d) < 2 ^ d → Toward.even.cut false n d = n / 2 ^ d) ∧ (2 ^ d < 2 * (n % 2 ^ d) → Toward.even.cut false n d = n / 2 ^ d + 1) ∧ (2 ^ d = 2 * (n % 2 ^ d) → Toward.even.cut false n d = n / 2 ^ d + n / 2 ^ d % 2) := by
  unfold Toward.cut
  simp only [Nat.one_shiftLeft, Nat.min_eq_left hd]
  generalize n / 2 ^ d = low
  generalize n % 2 ^ d = rest
  generalize 2 ^ d = g
  refine ⟨fun h => ?_, fun h => ?_, fun h => ?_⟩
  · rw [decide_eq_false (by omega), beq_eq_false_iff_ne.2 (by omega)]; rfl
  · rw [decide_eq_true h]; rfl
  · rw [decide_eq_false (by omega), beq_iff_eq.2 h]
    rcases Nat.mod_two_eq_zero_or_one low with e | e <;> rw [e] <;> rfl

/-- A whole number of up to 64 bits. -/
theorem nat_rnd (x : Nat) (h0 : x ≠ 0) : ∃ Q, nr x 0 = min Q 9218868437227405312 ∧ Rnd (x * U) 1 Q := by
  by_cases h1 : x < 9007199254740992
  · obtain ⟨a, b⟩ := nr_small x h0 h1
    refine ⟨nr x 0, (Nat.min_eq_left (Nat.le_of_lt a)).symm, ?_⟩
    rw [← b]
    exact rnd_exact _
  have hl1 : 53 ≤ x.log2 := (Nat.le_log2 h0).2 (by omega)
  have hle : 2 ^ x.log2 ≤ x := (Nat.le_log2 h0).1 (Nat.le_refl _)
  have hgt : x < 2 ^ (x.log2 + 1) := (Nat.log2_lt h0).1 (Nat.lt_succ_self _)
  have hc := even_cut3 x (x.log2 - 52) (by omega)
  have hnr : nr x 0 = min ((x.log2 - 52 + 1074) * BB + Toward.even.cut false x (x.log2 - 52)) 9218868437227405312 := by
    unfold nr
    rw [if_neg h0, c_frac, c_least, c_bi, c_inf]
    have e1 : max ((0 : Int) + (x.log2 : Int) - ((52 : Nat) : Int)) (-1074) = (x.log2 : Int) - 52 := by omega
    simp only [e1]
    have e2 : ((0 : Int) - ((x.log2 : Int) - 52)).toNat = 0 := by omega
    have e3 : ((x.log2 : Int) - 52 - 0).toNat = x.log2 - 52 := by omega
    have e4 : ((x.log2 : Int) - 52 - -1074).toNat = x.log2 - 52 + 1074 := by omega
    rw [e2, e3, e4, Nat.shiftLeft_zero]
  refine ⟨_, hnr, ?_⟩
  clear hnr
  generalize x.log2 = l at *
  obtain ⟨d, rfl⟩ : ∃ d, l = d + 52 := ⟨l - 52, by omega⟩
  rw [Nat.add_sub_cancel] at *
  have hp := Nat.two_pow_pos d
  have hk : 2 ^ (d + 52) = BB * 2 ^ d := (Nat.pow_add 2 d 52).trans ((congrArg (fun k => 2 ^ d * k) BB_two).trans (Nat.mul_comm _ _))
  have f1 : BB ≤ x / 2 ^ d := (Nat.le_div_iff_mul_le hp).2 (by rw [← hk]; exact hle)
  have f2 : x / 2 ^ d < 2 * BB := by
    apply Nat.div_lt_of_lt_mul
    rw [Nat.pow_succ, hk, Nat.mul_comm BB] at hgt
    rw [Nat.mul_comm 2 BB, ← Nat.mul_assoc]
    exact hgt
  have hdm := Nat.div_add_mod x (2 ^ d)
  have hml := Nat.mod_lt x hp
  have hdm2 := hdm
  rw [Nat.mul_comm] at hdm2
  generalize hq : x / 2 ^ d = low at *
  generalize hr : x % 2 ^ d = rest at *
  generalize Toward.even.cut false x d = kept at *
  have hu : ∀ z : Nat, z * 2 ^ (d + 1074) * 1 = z * 2 ^ d * U := fun z => by rw [Nat.mul_one, U_over, Nat.mul_assoc]
  have ha : ∀ z : Nat, (z + 1) * 2 ^ d = z * 2 ^ d + 2 ^ d := fun z => by rw [Nat.add_mul, Nat.one_mul]
  have hb : (2 * low) * 2 ^ d = 2 * (low * 2 ^ d) := Nat.mul_assoc _ _ _
  have h2 : 2 * (x * U) = 2 * x * U := (Nat.mul_assoc _ _ _).symm
  refine rnd_core (d + 1074) low (x * U) 1 kept f1 f2 (by omega) ?_ ?_ ?_ ?_ ?_
  · rw [hu]; exact Nat.mul_le_mul_right _ (by omega)
  · rw [hu, ha]; exact Nat.mul_lt_mul_of_pos_right (by omega) U_pos
  · intro g
    rw [hu, h2, ha, hb] at g
    have := Nat.lt_of_mul_lt_mul_right g
    exact hc.1 (by omega)
  · intro g
    rw [hu, h2, ha, hb] at g
    have := Nat.lt_of_mul_lt_mul_right g
    exact hc.2.1 (by omega)
  · intro g
    rw [hu, h2, ha, hb] at g
    have := Nat.eq_of_mul_eq_mul_right U_pos g
    exact hc.2.2 (by omega)

theorem nr_mono (x y : Nat) (h : x ≤ y) : nr x 0 ≤ nr y 0 := by
  by_cases h0 : x = 0
  · subst h0
    unfold nr
    simp
  obtain ⟨Q, e1, r1⟩ := nat_rnd x h0
  obtain ⟨Q', e2, r2⟩ := nat_rnd y (by omega)
  have := rnd_mono r1 r2 (by omega) (by omega) (by rw [Nat.mul_one, Nat.mul_one]; exact Nat.mul_le_mul_right _ h)
  omega

theorem read_norm (b : Nat) (hb : b < 18446744073709551616) (h1 : BB ≤ rg b) (h : rg b < 9218868437227405312) :
    ∃ m p : Nat, double.read b = .number (sg b) m (-1074 + (p : Int)) ∧ m * 2 ^ p = vl BB (rg b) ∧ BB ≤ m ∧ m < 2 * BB ∧ p = rg b / 4503599627370496 - 1 := by
  rw [read_eq b hb, if_neg (by rw [BB_v] at h1; omega), if_pos h, c_least]
  refine ⟨_, _, rfl, ?_, ?_, ?_, rfl⟩
  · unfold vl
    rw [if_neg (by omega)]
  · rw [BB_v]; omega
  · have := Nat.mod_lt (rg b) BB_pos
    rw [BB_v] at *
    omega

theorem quo_kept (dv C h : Nat) (hC : 0 < C) (hh : h = 1 ∨ h = 2) (m : Nat) (hm : m = 2 * (dv / C) + (dv % C != 0).toNat) :
    m / (4 * h) * (2 * h) * C ≤ dv ∧ dv < (m / (4 * h) + 1) * (2 * h) * C ∧ (2 * dv < (2 * (m / (4 * h)) + 1) * (2 * h) * C → 2 * (m % (4 * h)) < 4 * h) ∧
      ((2 * (m / (4 * h)) + 1) * (2 * h) * C < 2 * dv → 4 * h < 2 * (m % (4 * h))) ∧ (2 * dv = (2 * (m / (4 * h)) + 1) * (2 * h) * C → 4 * h = 2 * (m % (4 * h))) := by
  have hb : (dv % C != 0).toNat = if dv % C = 0 then 0 else 1 := by
    by_cases e : dv % C = 0
    · rw [e]; rfl
    · rw [if_neg e, bne_iff_ne.2 e]; rfl
  rw [hb] at hm
  clear hb
  have l1 : ∀ z, z * C ≤ dv ↔ z ≤ dv / C := fun z => (Nat.le_div_iff_mul_le hC).symm
  have l2 : ∀ z, dv < z * C ↔ dv / C < z := fun z => (Nat.div_lt_iff_lt_mul hC).symm
  have l3 : ∀ z, dv = z * C → dv / C = z ∧ dv % C = 0 := fun z e => by rw [e]; exact ⟨Nat.mul_div_cancel _ hC, Nat.mul_mod_left _ _⟩
  have l4 : dv % C = 0 → dv = dv / C * C := fun e => by have := Nat.div_add_mod dv C; rw [e, Nat.add_zero, Nat.mul_comm] at this; exact this.symm
  have l5 : (2 * (m / (4 * h)) + 1) * (2 * h) * C = 2 * ((2 * (m / (4 * h)) + 1) * h * C) := by
    rw [Nat.mul_assoc, Nat.mul_assoc, Nat.mul_assoc, Nat.mul_left_comm]
  rw [l5, l1, l2]
  generalize dv / C = t at *
  refine ⟨?_, ?_, ?_, ?_, ?_⟩
  · rcases hh with rfl | rfl <;> split at hm <;> omega
  · rcases hh with rfl | rfl <;> split at hm <;> omega
  · intro g
    have := (l2 _).1 (show dv < (2 * (m / (4 * h)) + 1) * h * C by omega)
    rcases hh with rfl | rfl <;> split at hm <;> omega
  · intro g
    have g2 : (2 * (m / (4 * h)) + 1) * h * C < dv := by omega
    have := (l1 _).1 (Nat.le_of_lt g2)
    by_cases e : dv % C = 0
    · have e2 := l4 e
      rw [if_pos e] at hm
      have : (2 * (m / (4 * h)) + 1) * h ≠ t := by
        intro e3
        rw [e3] at g2
        omega
      rcases hh with rfl | rfl <;> omega
    · rw [if_neg e] at hm
      rcases hh with rfl | rfl <;> omega
  · intro g
    obtain ⟨e1, e2⟩ := l3 _ (show dv = (2 * (m / (4 * h)) + 1) * h * C by omega)
    rw [if_pos e2] at hm
    rcases hh with rfl | rfl <;> omega

theorem log_norm (m : Nat) (h1 : BB ≤ m) (h2 : m < 2 * BB) : m.log2 = 52 := by
  have h0 : m ≠ 0 := by have := BB_pos; omega
  have a := (Nat.le_log2 h0 (k := 52)).2 (by rw [BB_two]; exact h1)
  have b := (Nat.log2_lt h0 (k := 53)).2 (Nat.lt_of_lt_of_le h2 (by decide))
  omega

theorem e_fifty (p : Nat) : 54 + (p + 1020) = p + 1074 := by omega

theorem quo_rnd (s t : Bool) (A C p q : Nat) (a1 : BB ≤ A) (a2 : A < 2 * BB) (c1 : BB ≤ C) (c2 : C < 2 * BB) (hpq : q ≤ p + 900) :
    ∃ Q, (Datum.quotient (double.fractionBits + 2) (.number s A (-1074 + (p : Int))) (.number t C (-1074 + (q : Int)))).map double.write = some (double.word (s ^^ t) (min Q 9218868437227405312)) ∧ Rnd (A * 2 ^ p * U) (C * 2 ^ q) Q := by
  have hC : 0 < C := Nat.lt_of_lt_of_le BB_pos c1
  simp only [Datum.quotient]
  rw [if_neg (by omega), c_frac, log_norm A a1 a2, log_norm C c1 c2]
  rw [show 52 + 2 + 52 - 52 = 54 by omega, Nat.shiftLeft_eq]
  simp only [Option.map_some, Format.write]
  rw [nearest_nr]
  have e54 : (2 : Nat) ^ 54 = 18014398509481984 := by decide
  have t1 : 9007199254740992 ≤ A * 2 ^ 54 / C := (Nat.le_div_iff_mul_le hC).2 (by rw [e54]; rw [BB_v] at *; omega)
  have t2 : A * 2 ^ 54 / C < 36028797018963968 := (Nat.div_lt_iff_lt_mul hC).2 (by rw [e54]; rw [BB_v] at *; omega)
  obtain ⟨m, hm⟩ : ∃ m, m = 2 * (A * 2 ^ 54 / C) + (A * 2 ^ 54 % C != 0).toNat := ⟨_, rfl⟩
  rw [← hm]
  have hb : (A * 2 ^ 54 % C != 0).toNat ≤ 1 := by cases (A * 2 ^ 54 % C != 0) <;> decide
  have m1 : 18014398509481984 ≤ m := by omega
  have m2 : m < 72057594037927936 := by omega
  have m0 : m ≠ 0 := by omega
  obtain ⟨h, d, hh, hd, hl⟩ : ∃ h d : Nat, (h = 1 ∧ d = 1 ∨ h = 2 ∧ d = 2) ∧ 2 ^ (d + 1) = 4 * h ∧ m.log2 = d + 53 ∧ 1 ≤ d := by
    by_cases g : m < 36028797018963968
    · have a := (Nat.le_log2 m0 (k := 54)).2 (Nat.le_trans (by decide) m1)
      have b := (Nat.log2_lt m0 (k := 55)).2 (Nat.lt_of_lt_of_le g (by decide))
      exact ⟨1, 1, .inl ⟨rfl, rfl⟩, by decide, by omega, by omega⟩
    · have a := (Nat.le_log2 m0 (k := 55)).2 (Nat.le_trans (by decide) (Nat.le_of_not_lt g))
      have b := (Nat.log2_lt m0 (k := 56)).2 (Nat.lt_of_lt_of_le m2 (by decide))
      exact ⟨2, 2, .inr ⟨rfl, rfl⟩, by decide, by omega, by omega⟩
  obtain ⟨hl, hd1⟩ := hl
  obtain ⟨D, hD⟩ : ∃ D, D + q = p + 1020 + d := ⟨p + 1020 + d - q, by omega⟩
  have hc := even_cut3 m (d + 1) (by omega)
  have hnr : nr m (-1074 + (p : Int) - (-1074 + (q : Int)) - ((54 : Nat) : Int) - 1) = min (D * BB + Toward.even.cut false m (d + 1)) 9218868437227405312 := by
    unfold nr
    rw [if_neg m0, c_frac, c_least, c_bi, c_inf, hl]
    have e1 : max (-1074 + (p : Int) - (-1074 + (q : Int)) - ((54 : Nat) : Int) - 1 + ((d + 53 : Nat) : Int) - ((52 : Nat) : Int)) (-1074) = (D : Int) - 1074 := by omega
    simp only [e1]
    have e2 : (-1074 + (p : Int) - (-1074 + (q : Int)) - ((54 : Nat) : Int) - 1 - ((D : Int) - 1074)).toNat = 0 := by omega
    have e3 : ((D : Int) - 1074 - (-1074 + (p : Int) - (-1074 + (q : Int)) - ((54 : Nat) : Int) - 1)).toNat = d + 1 := by omega
    have e4 : ((D : Int) - 1074 - -1074).toNat = D := by omega
    rw [e2, e3, e4, Nat.shiftLeft_zero]
  refine ⟨_, by rw [hnr], ?_⟩
  clear hnr
  obtain ⟨g1, g2, g3, g4, g5⟩ := quo_kept (A * 2 ^ 54) C h hC (hh.imp And.left And.left) m hm
  rw [hd] at hc
  have hmb : m / (4 * h) < 2 * BB ∧ BB ≤ m / (4 * h) := by
    have hlo : 2 ^ (d + 53) ≤ m := (Nat.le_log2 m0).1 (by omega)
    have hhi : m < 2 ^ (d + 54) := (Nat.log2_lt m0).1 (by omega)
    rcases hh with ⟨rfl, rfl⟩ | ⟨rfl, rfl⟩
    · have x1 : (2 : Nat) ^ (1 + 53) = 18014398509481984 := by decide
      have x2 : (2 : Nat) ^ (1 + 54) = 36028797018963968 := by decide
      rw [x1] at hlo
      rw [x2] at hhi
      rw [BB_v]
      omega
    · have x1 : (2 : Nat) ^ (2 + 53) = 36028797018963968 := by decide
      have x2 : (2 : Nat) ^ (2 + 54) = 72057594037927936 := by decide
      rw [x1] at hlo
      rw [x2] at hhi
      rw [BB_v]
      omega
  have hX : A * 2 ^ p * U = A * 2 ^ 54 * 2 ^ (p + 1020) := by
    have e := e_fifty p
    calc A * 2 ^ p * U = A * (2 ^ p * U) := Nat.mul_assoc _ _ _
      _ = A * 2 ^ (p + 1074) := congrArg (fun k => A * k) (U_over p).symm
      _ = A * 2 ^ (54 + (p + 1020)) := congrArg (fun k => A * 2 ^ k) e.symm
      _ = A * (2 ^ 54 * 2 ^ (p + 1020)) := congrArg (fun k => A * k) (Nat.pow_add 2 54 (p + 1020))
      _ = A * 2 ^ 54 * 2 ^ (p + 1020) := (Nat.mul_assoc _ _ _).symm
  have hY : ∀ z : Nat, z * 2 ^ D * (C * 2 ^ q) = z * (2 * h) * C * 2 ^ (p + 1020) := by
    intro z
    have h2d : 2 ^ d = 2 * h := by rw [Nat.pow_succ] at hd; omega
    have e : 2 ^ D * 2 ^ q = 2 * h * 2 ^ (p + 1020) := by
      rw [← Nat.pow_add, hD, Nat.pow_add, h2d, Nat.mul_comm]
    calc z * 2 ^ D * (C * 2 ^ q) = z * C * (2 ^ D * 2 ^ q) := by
          rw [Nat.mul_assoc, Nat.mul_assoc, Nat.mul_left_comm (2 ^ D)]
      _ = z * C * (2 * h * 2 ^ (p + 1020)) := by rw [e]
      _ = z * (2 * h) * C * 2 ^ (p + 1020) := by rw [← Nat.mul_assoc, Nat.mul_assoc z C, Nat.mul_comm C, ← Nat.mul_assoc]
  have hp := Nat.two_pow_pos (p + 1020)
  have h2 : 2 * (A * 2 ^ p * U) = 2 * (A * 2 ^ 54) * 2 ^ (p + 1020) := by rw [hX, Nat.mul_assoc 2]
  refine rnd_core D (m / (4 * h)) (A * 2 ^ p * U) (C * 2 ^ q) _ hmb.2 hmb.1 (Nat.mul_pos hC (Nat.two_pow_pos q)) ?_ ?_ ?_ ?_ ?_
  · rw [hY, hX]; exact Nat.mul_le_mul_right _ g1
  · rw [hY, hX]; exact Nat.mul_lt_mul_of_pos_right g2 hp
  · intro g
    rw [hY, h2] at g
    exact hc.1 (g3 (Nat.lt_of_mul_lt_mul_right g))
  · intro g
    rw [hY, h2] at g
    exact hc.2.1 (g4 (Nat.lt_of_mul_lt_mul_right g))
  · intro g
    rw [hY, h2] at g
    exact hc.2.2 (g5 (Nat.eq_of_mul_eq_mul_right hp g))

theorem nr_one : nr 1 0 = 4607182418800017408 := by decide +kernel
theorem nr_top : nr 18446744073709551615 0 = 4895412794951729152 := by decide +kernel
theorem nr_ends (x : Nat) (h0 : x ≠ 0) (h : x < 18446744073709551616) : 4607182418800017408 ≤ nr x 0 ∧ nr x 0 ≤ 4895412794951729152 := by
  rw [← nr_one, ← nr_top]
  exact ⟨nr_mono _ _ (by omega), nr_mono _ _ (by omega)⟩

theorem nr_nought : nr 0 0 = 0 := by unfold nr; simp
theorem word_false (r : Nat) : double.word false r = r := rfl

theorem div_nr (x y : Nat) (hx : x ≠ 0) (hy : y ≠ 0) (hx2 : x < 18446744073709551616) (hy2 : y < 18446744073709551616) :
    ∃ Q, double.div (nr x 0) (nr y 0) = some (min Q 9218868437227405312) ∧ Rnd (vl BB (nr x 0) * U) (vl BB (nr y 0)) Q := by
  obtain ⟨x1, x2⟩ := nr_ends x hx hx2
  obtain ⟨y1, y2⟩ := nr_ends y hy hy2
  have hb : ∀ z, z ≤ 4895412794951729152 → rg z = z ∧ sg z = false := fun z hz => ⟨Nat.mod_eq_of_lt (by omega), decide_eq_false (by omega)⟩
  obtain ⟨rx, sx⟩ := hb _ x2
  obtain ⟨ry, sy⟩ := hb _ y2
  obtain ⟨A, p, e1, e2, e3, e4, e5⟩ := read_norm (nr x 0) (by omega) (by rw [rx, BB_v]; omega) (by rw [rx]; omega)
  obtain ⟨C, q, f1, f2, f3, f4, f5⟩ := read_norm (nr y 0) (by omega) (by rw [ry, BB_v]; omega) (by rw [ry]; omega)
  rw [rx] at e2 e5
  rw [ry] at f2 f5
  obtain ⟨Q, g1, g2⟩ := quo_rnd false false A C p q e3 e4 f3 f4 (by omega)
  refine ⟨Q, ?_, ?_⟩
  · unfold Format.div
    rw [e1, f1, sx, sy]
    exact g1
  · rw [← e2, ← f2]
    exact g2

def qt (x y : Nat) : Nat := (double.div (nr x 0) (nr y 0)).getD 0

theorem vl_one : vl BB 4607182418800017408 = U := by
  have := (nr_small 1 (by decide) (by decide)).2
  rw [nr_one, Nat.one_mul] at this
  exact this

theorem vl_pos (r : Nat) (h : r ≠ 0) : 0 < vl BB r := by
  have := vl_lt' (show 0 < r by omega)
  omega

theorem qt_none (y : Nat) (hy : y ≠ 0) (hy2 : y < 18446744073709551616) : double.div (nr 0 0) (nr y 0) = some 0 := by
  obtain ⟨y1, y2⟩ := nr_ends y hy hy2
  have ry : rg (nr y 0) = nr y 0 := Nat.mod_eq_of_lt (by omega)
  have sy : sg (nr y 0) = false := decide_eq_false (by omega)
  obtain ⟨C, q, f1, f2, f3, f4, f5⟩ := read_norm (nr y 0) (by omega) (by rw [ry, BB_v]; omega) (by rw [ry]; omega)
  have hC : C ≠ 0 := by have := BB_pos; omega
  unfold Format.div
  rw [nr_nought, f1, sy]
  have r0 : double.read 0 = .number false 0 (-1074) := by decide +kernel
  rw [r0]
  simp only [Datum.quotient]
  rw [if_neg hC, Nat.zero_shiftLeft, Nat.zero_div, Nat.zero_mod]
  simp only [Option.map_some, Format.write]
  rw [nearest_nr]
  rfl

theorem qt_spec (x y : Nat) (hy : y ≠ 0) (hxy : x ≤ y) (hy2 : y < 18446744073709551616) :
    double.div (nr x 0) (nr y 0) = some (qt x y) ∧ qt x y ≤ 4607182418800017408 := by
  by_cases hx : x = 0
  · subst hx
    unfold qt
    rw [qt_none y hy hy2]
    exact ⟨rfl, Nat.zero_le _⟩
  · obtain ⟨Q, h1, h2⟩ := div_nr x y hx hy (by omega) hy2
    obtain ⟨y1, y2⟩ := nr_ends y hy hy2
    unfold qt
    rw [h1]
    refine ⟨rfl, ?_⟩
    have hm := vl_le' (nr_mono x y hxy)
    have hp := vl_pos (nr y 0) (by omega)
    have : Q ≤ 4607182418800017408 := by
      refine h2.dn _ ?_
      have hv := vl_one
      have hu := md_above (Nat.le_refl 4607182418800017408)
      rw [hv] at hu
      refine Nat.lt_of_le_of_lt ?_ (Nat.mul_lt_mul_of_pos_right hu hp)
      rw [Nat.mul_assoc, Nat.mul_comm U]
      exact Nat.mul_le_mul_left _ (Nat.mul_le_mul_right _ hm)
    exact Nat.le_trans (Nat.min_le_left _ _) this

theorem qt_lt_one (x y : Nat) (hxy : x < y) (hy2 : y < 9007199254740992) : qt x y < 4607182418800017408 := by
  by_cases hx : x = 0
  · subst hx
    unfold qt
    rw [qt_none y (by omega) (by omega)]
    decide
  · obtain ⟨Q, h1, h2⟩ := div_nr x y hx (by omega) (by omega) (by omega)
    have vx := (nr_small x hx (by omega)).2
    have vy := (nr_small y (by omega) hy2).2
    unfold qt
    rw [h1]
    have : Q ≤ 4607182418800017407 := by
      refine h2.dn _ ?_
      rw [vx, vy]
      obtain ⟨d, hd⟩ : ∃ d : Nat, d = 1021 := ⟨_, rfl⟩
      have e1 : vl BB 4607182418800017407 = (2 * BB - 1) * 2 ^ d := by
        have hv := vl_form d (2 * BB - 1) (by decide) (by decide)
        have hi : d * BB + (2 * BB - 1) = 4607182418800017407 := by subst hd; decide
        rw [hi] at hv
        exact hv
      have e2 : md 4607182418800017407 = (2 * BB - 1) * 2 ^ d + U := by
        unfold md
        rw [e1]
        exact congrArg (fun k => (2 * BB - 1) * 2 ^ d + k) vl_one
      have e3 : U = (2 * BB) * 2 ^ d := by
        have hu := U_split 53 (by omega)
        have hs : 1074 - 53 = d := by omega
        rw [hs, show (2 : Nat) ^ 53 = 2 * BB by decide] at hu
        exact hu
      rw [e2, e3]
      generalize 2 ^ d = K at *
      have hU : 0 < U := U_pos
      rw [e3] at hU
      have hK : 0 < K := by
        rcases Nat.eq_zero_or_pos K with h | h
        · rw [h, Nat.mul_zero] at hU; omega
        · exact h
      have l : 2 * (x * (2 * BB * K) * (2 * BB * K)) = 2 * (2 * BB) * x * K * (2 * BB * K) := by
        generalize 2 * BB = z
        simp only [Nat.mul_assoc, Nat.mul_left_comm, Nat.mul_comm]
      have r : ((2 * BB - 1) * K + 2 * BB * K) * (y * (2 * BB * K)) = (4 * BB - 1) * y * K * (2 * BB * K) := by
        rw [← Nat.add_mul, ← Nat.mul_assoc, Nat.mul_right_comm _ K y]
        rfl
      rw [l, r]
      refine Nat.mul_lt_mul_of_pos_right (Nat.mul_lt_mul_of_pos_right ?_ hK) hU
      rw [BB_v]
      omega
    exact Nat.lt_of_le_of_lt (Nat.min_le_left _ _) (by omega)

theorem qt_mono (x y x' y' : Nat) (hy : y ≠ 0) (hy' : y' ≠ 0) (hx2 : x < 9007199254740992) (hy2 : y < 9007199254740992) (hx2' : x' < 9007199254740992) (hy2' : y' < 9007199254740992)
    (h : x * y' ≤ x' * y) : qt x y ≤ qt x' y' := by
  by_cases hx : x = 0
  · subst hx
    unfold qt
    rw [qt_none y hy (by omega)]
    exact Nat.zero_le _
  · have hx' : x' ≠ 0 := by
      intro e
      subst e
      have := Nat.mul_pos (Nat.pos_of_ne_zero hx) (Nat.pos_of_ne_zero hy')
      omega
    obtain ⟨Q, h1, h2⟩ := div_nr x y hx hy (by omega) (by omega)
    obtain ⟨Q', h1', h2'⟩ := div_nr x' y' hx' hy' (by omega) (by omega)
    unfold qt
    rw [h1, h1']
    rw [(nr_small x hx hx2).2, (nr_small y hy hy2).2] at h2
    rw [(nr_small x' hx' hx2').2, (nr_small y' hy' hy2').2] at h2'
    have hq := rnd_mono h2 h2' (Nat.mul_pos (Nat.pos_of_ne_zero hy) U_pos) (Nat.mul_pos (Nat.pos_of_ne_zero hy') U_pos) (by
      have := Nat.mul_le_mul_right (U * U * U) h
      calc x * U * U * (y' * U) = x * y' * (U * U * U) := by simp only [Nat.mul_left_comm, Nat.mul_comm]
        _ ≤ x' * y * (U * U * U) := this
        _ = x' * U * U * (y * U) := by simp only [Nat.mul_left_comm, Nat.mul_comm])
    show min Q _ ≤ min Q' _
    omega
end Go.Proofs.YthpmhjlndnelfaaDoor.Real
